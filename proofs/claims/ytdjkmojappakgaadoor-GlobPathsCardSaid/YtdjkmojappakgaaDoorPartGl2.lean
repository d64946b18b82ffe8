/- Matching: the contracts hold. -/
import Derived.Test.YtdjkmojappakgaaDoorPartGl1
import Derived.OpenShut
import Derived.ProofKit
namespace Go.Ab
open Go.Proofs

theorem encF_len (f : Nat → Bool) (n : Nat) : (encF f n).length = n := by simp [encF]
theorem encF_at {f : Nat → Bool} {n i : Nat} (h : i < n) : atL (encF f n) (i : Int) = [.bool (f i)] := by
  have := atL_map (fun i => [L.bool (f i)]) (List.range n) i 0 (by simpa using h)
  rw [encF, this]
  simp [List.getD, h]
theorem encF_congr {f g : Nat → Bool} {n : Nat} (h : ∀ i, i < n → f i = g i) : encF f n = encF g n := by
  unfold encF
  refine List.map_congr_left fun i hi => ?_
  rw [h i (by simpa using hi)]
theorem encF_set {f : Nat → Bool} {n i : Nat} (b : Bool) (h : i < n) : (encF f n).set i [.bool b] = encF (fun j => if j = i then b else f j) n := by
  apply List.ext_getElem
  · simp [encF]
  · intro j h1 h2
    simp only [encF, List.getElem_set, List.getElem_map, List.getElem_range]
    by_cases e : i = j
    · subst e; simp
    · rw [if_neg e, if_neg (fun h => e h.symm)]
theorem encF_rep (n : Nat) : List.replicate n [L.bool false] = encF (fun _ => false) n := by
  apply List.ext_getElem <;> simp [encF]
theorem splice_one (x y : L) : splice 0 [x] [y] = [x] := rfl
theorem cO_one (b : Bool) : cO 0 [.bool b] = b := rfl

/-! ### one byte -/
theorem inR_drop {xs : List (List L)} {i : Nat} (h : i < xs.length) (c : Int) : inR (xs.drop i) c = ((leI (cI 0 (atL xs (i : Int))) c && leI c (cI 1 (atL xs (i : Int)))) || inR (xs.drop (i + 1)) c) := by
  have hd : xs.drop i = xs[i] :: xs.drop (i + 1) := List.drop_eq_getElem_cons h
  have ha : atL xs (i : Int) = xs[i] := by unfold atL; simp [List.getD, h]
  rw [hd, ha]
  simp only [inR, List.any_cons]
  rfl
theorem stands_loop (xs : List (List L)) (hx : xs.length ≤ 1000000) (c k0 c0 : Int) (nt : Bool) : ∀ m i (b : Bool), i + m = xs.length →
    Runs (cfg []) (stands_q8 c b xs (xs.length : Int) (i : Int) k0 c0 nt xs) [.bool (c != 47 && ((b || inR (xs.drop i) c) != nt))]
  | 0, i, b, h => by
    refine Runs.by (stands_p8 · _ _ _ _ _ _ _ _ _) ?_
    simp (disch := omega) only [ev_lt_f, cond_false]
    rw [List.drop_eq_nil_of_le (by omega)]
    simp only [inR, List.any_nil, Bool.or_false]
    cases c != 47 <;> exact .ret
  | m + 1, i, b, h => by
    refine Runs.by (stands_p8 · _ _ _ _ _ _ _ _ _) ?_
    simp (disch := omega) only [ev_lt_t, ev_le_t, Bool.and_self, cond_true, w64]
    rw [inR_drop (by omega)]
    have ih := fun b => stands_loop xs hx c k0 c0 nt m (i + 1) b (by omega)
    cases b with
    | true => simpa using RunsF.go (ih true)
    | false =>
      simp only [cond_false, Bool.false_or]
      cases leI (cI 0 (atL xs (i : Int))) c with
      | false => simpa using RunsF.go (ih false)
      | true =>
        simp only [cond_true, Bool.true_and]
        exact .go (ih _)
theorem stands_holds : Holds k_stands := con_run (xs := []) hold0 fun aa hp r h => by
  split at h
  case h_2 => cases h
  rename_i k c nt xs b
  obtain ⟨g, rfl⟩ := xo h
  rw [Nat.ble_eq] at g
  refine Runs.by (stands_e · _ _ _ _ _) ?_
  unfold standsR
  by_cases h0 : k = 0
  · simp (disch := omega) only [ev_eq_t, cond_true, if_pos h0]
    exact .ret
  by_cases h3 : k = 3
  · simp (disch := omega) only [ev_eq_t, ev_eq_f, cond_true, cond_false, if_neg h0, if_pos h3]
    exact .ret
  simp (disch := omega) only [ev_eq_f, cond_false, if_neg h0, if_neg h3]
  have := stands_loop xs g b k c nt xs.length 0 false (by omega)
  simp only [Bool.false_or, List.drop_zero] at this
  exact .go this
theorem one_loop (xs : List (List L)) (hx : xs.length ≤ 1000000) (c k0 c0 : Int) (nt : Bool) : ∀ m i, i + m = xs.length →
    Runs (cfg []) (one_q8 c (i : Int) k0 c0 nt xs) [.bool (inR (xs.drop i) c != nt)]
  | 0, i, h => by
    refine Runs.by (one_p8 · _ _ _ _ _ _) ?_
    simp (disch := omega) only [ev_lt_f, cond_false]
    rw [List.drop_eq_nil_of_le (by omega)]
    simp only [inR, List.any_nil]
    exact .ret' (by simp)
  | m + 1, i, h => by
    refine Runs.by (one_p8 · _ _ _ _ _ _) ?_
    simp (disch := omega) only [ev_lt_t, ev_le_t, Bool.and_self, cond_true, w64]
    rw [inR_drop (by omega)]
    have ih := one_loop xs hx c k0 c0 nt m (i + 1) (by omega)
    cases leI (cI 0 (atL xs (i : Int))) c with
    | false => simpa using RunsF.go ih
    | true =>
      simp only [cond_true, Bool.true_and]
      cases leI c (cI 1 (atL xs (i : Int))) with
      | false => simpa using RunsF.go ih
      | true => exact .ret' (by simp)
theorem one_holds : Holds k_one := con_run (xs := []) hold0 fun aa hp r h => by
  split at h
  case h_2 => cases h
  rename_i k c nt xs b
  obtain ⟨g, rfl⟩ := xo h
  rw [Nat.ble_eq] at g
  refine Runs.by (one_e · _ _ _ _ _) ?_
  unfold oneR
  by_cases h0 : k = 1
  · simp (disch := omega) only [ev_eq_t, cond_true, if_pos h0]
    exact .ret
  by_cases h3 : b = 47
  · simp (disch := omega) only [ev_eq_t, ev_eq_f, cond_true, cond_false, if_neg h0, if_pos h3]
    exact .ret
  by_cases h2 : k = 2
  · simp (disch := omega) only [ev_eq_t, ev_eq_f, cond_true, cond_false, if_neg h0, if_neg h3, if_pos h2]
    exact .ret
  simp (disch := omega) only [ev_eq_f, cond_false, if_neg h0, if_neg h3, if_neg h2]
  exact .go (one_loop xs g b k c nt xs.length 0 (by omega))

/-! ### the program's table -/
theorem byte47 (b : UInt8) : ((b.toNat : Int) != 47) = (b != 47) := by
  show (!((b.toNat : Int) == 47)) = !(b == 47)
  rw [show ((b.toNat : Int) == 47) = (b == 47) from u8_eq (n := 47) (by decide)]
theorem Match_star (p : List UInt8) (hp : p.length ≤ 1000000) (f : Nat → Bool) (k c0 : Int) (nt : Bool) (xs : List (List L)) (ok : UInt8 → Bool) (hk : (k = 1 ∧ ok = fun _ => true) ∨ (k = 2 ∧ ok = fun b => b != 47)) (a j : Int) (h2 : List (List L))
    (r : List L) (hj : wrapI .i64 (j + 1) = j + 1) (hr : Runs (cfg [k_Right, k_parse, k_stands]) (Match_q7 (mk p) a (j + 1) (encF (starF ok p f) (p.length + 1)) h2) r) : ∀ m i, i + m = p.length + 1 →
    Runs (cfg [k_Right, k_parse, k_stands]) (Match_q11 (mk p) a j ((p.length + 1 : Nat) : Int) (i : Int) k c0 nt xs (encF (fun t => if t < i then starF ok p f t else false) (p.length + 1)) h2 (encF f (p.length + 1))) r
  | 0, i, h => by
    refine Runs.by (Match_p11 · _ _ _ _ _ _ _ _ _ _ _ _) ?_
    simp (disch := omega) only [ev_lt_f, cond_false, hj]
    have : encF (fun t => if t < i then starF ok p f t else false) (p.length + 1) = encF (starF ok p f) (p.length + 1) := encF_congr fun t ht => if_pos (by omega)
    rw [this]
    exact .go hr
  | m + 1, i, h => by
    refine Runs.by (Match_p11 · _ _ _ _ _ _ _ _ _ _ _ _) ?_
    have ih := Match_star p hp f k c0 nt xs ok hk a j h2 r hj hr m (i + 1) (by omega)
    have put : ∀ b : Bool, b = starF ok p f i → (encF (fun t => if t < i then starF ok p f t else false) (p.length + 1)).set i [.bool b] = encF (fun t => if t < i + 1 then starF ok p f t else false) (p.length + 1) := fun b hb => by
      rw [encF_set b (by omega)]
      refine encF_congr fun t ht => ?_
      by_cases e : t = i
      · subst e; rw [if_pos rfl, if_pos (by omega), hb]
      · rw [if_neg e]
        by_cases e2 : t < i
        · rw [if_pos e2, if_pos (by omega)]
        · rw [if_neg e2, if_neg (by omega)]
    simp (disch := omega) only [encF_len, ev_lt_t, ev_le_t, Bool.and_self, cond_true, encF_at, cO_one, splice_one, w64, Int.toNat_natCast]
    have e1 : ((i + 1 : Nat) : Int) = (i : Int) + 1 := by omega
    cases i with
    | zero =>
      have e0 : ltI 0 ((0 : Nat) : Int) = false := rfl
      rw [e1] at ih
      cases hf : f 0 with
      | true =>
        rw [put true (by simp [starF, hf])]
        rcases hk with ⟨rfl, _⟩ | ⟨rfl, _⟩
        · simp (disch := omega) only [ev_eq_t, cond_true]; exact .go ih
        · simp (disch := omega) only [ev_eq_t, ev_eq_f, cond_true, cond_false]; exact .go ih
      | false =>
        rw [put false (by simp [starF, hf])]
        rcases hk with ⟨rfl, _⟩ | ⟨rfl, _⟩
        · simp (disch := omega) only [ev_eq_t, cond_true, e0, cond_false]; exact .go ih
        · simp (disch := omega) only [ev_eq_t, ev_eq_f, cond_true, cond_false, e0]; exact .go ih
    | succ i =>
      have e2 : ((i + 1 : Nat) : Int) - 1 = (i : Int) := by omega
      rw [e1] at ih
      have hsz : (mk p).size = p.length := rfl
      simp (disch := omega) only [e2, ev_lt_t, ev_le_t, cond_true, encF_at, cO_one, w64, hsz, Bool.and_self, byI_mk, byte47, if_pos (show i < i + 1 by omega)]
      have hstar : starF ok p f (i + 1) = (f (i + 1) || (starF ok p f i && ok (p.getD i 0))) := rfl
      cases hf : f (i + 1) with
      | true =>
        rw [put true (by rw [hstar, hf]; rfl)]
        rcases hk with ⟨rfl, _⟩ | ⟨rfl, _⟩
        · simp (disch := omega) only [ev_eq_t, cond_true]; exact .go ih
        · simp (disch := omega) only [ev_eq_t, ev_eq_f, cond_true, cond_false]; exact .go ih
      | false =>
        cases hg : starF ok p f i with
        | false =>
          rw [put false (by rw [hstar, hf, hg]; rfl)]
          rcases hk with ⟨rfl, _⟩ | ⟨rfl, _⟩
          · simp (disch := omega) only [ev_eq_t, cond_true, cond_false]; exact .go ih
          · simp (disch := omega) only [ev_eq_t, ev_eq_f, cond_true, cond_false]; exact .go ih
        | true =>
          rcases hk with ⟨rfl, hok⟩ | ⟨rfl, hok⟩
          · rw [put true (by rw [hstar, hf, hg, hok]; rfl)]
            simp (disch := omega) only [ev_eq_t, cond_true, cond_false]; exact .go ih
          · rw [put (p.getD i 0 != 47) (by rw [hstar, hf, hg, hok]; simp)]
            simp (disch := omega) only [ev_eq_t, ev_eq_f, cond_true, cond_false]; exact .go ih
theorem Match_one (p : List UInt8) (hp : p.length ≤ 1000000) (f : Nat → Bool) (k c0 : Int) (nt : Bool) (xs : List (List L)) (hxs : xs.length ≤ 1000000) (st : UInt8 → Bool) (hk1 : k ≠ 1) (hk2 : k ≠ 2) (hst : ∀ b : UInt8, standsR k c0 nt xs (b.toNat : Int) = st b) (a j : Int) (h2 : List (List L))
    (r : List L) (hj : wrapI .i64 (j + 1) = j + 1) (hr : Runs (cfg [k_Right, k_parse, k_stands]) (Match_q7 (mk p) a (j + 1) (encF (oneF st p f) (p.length + 1)) h2) r) : ∀ m i, i + m = p.length + 1 →
    Runs (cfg [k_Right, k_parse, k_stands]) (Match_q11 (mk p) a j ((p.length + 1 : Nat) : Int) (i : Int) k c0 nt xs (encF (fun t => if t ≤ i then oneF st p f t else false) (p.length + 1)) h2 (encF f (p.length + 1))) r
  | 0, i, h => by
    refine Runs.by (Match_p11 · _ _ _ _ _ _ _ _ _ _ _ _) ?_
    simp (disch := omega) only [ev_lt_f, cond_false, hj]
    have : encF (fun t => if t ≤ i then oneF st p f t else false) (p.length + 1) = encF (oneF st p f) (p.length + 1) := encF_congr fun t ht => if_pos (by omega)
    rw [this]
    exact .go hr
  | m + 1, i, h => by
    refine Runs.by (Match_p11 · _ _ _ _ _ _ _ _ _ _ _ _) ?_
    have ih := Match_one p hp f k c0 nt xs hxs st hk1 hk2 hst a j h2 r hj hr m (i + 1) (by omega)
    have hsz : (mk p).size = p.length := rfl
    have e1 : ((i : Int) + 1) = ((i + 1 : Nat) : Int) := by omega
    simp (disch := omega) only [encF_len, ev_lt_t, ev_le_t, ev_eq_f, Bool.and_self, cond_true, cond_false, encF_at, cO_one, w64, hsz, byI_mk, hst, ev_blt]
    have same : oneF st p f (i + 1) = false ∨ i + 1 = p.length + 1 → encF (fun t => if t ≤ i then oneF st p f t else false) (p.length + 1) = encF (fun t => if t ≤ i + 1 then oneF st p f t else false) (p.length + 1) := fun hc => by
      refine encF_congr fun t ht => ?_
      by_cases e : t ≤ i
      · rw [if_pos e, if_pos (by omega)]
      · rw [if_neg e]
        by_cases e2 : t ≤ i + 1
        · obtain rfl : t = i + 1 := by omega
          rw [if_pos e2]
          rcases hc with hc | hc
          · exact hc.symm
          · omega
        · rw [if_neg e2]
    have hone : oneF st p f (i + 1) = (f i && (decide (i < p.length) && st (p.getD i 0))) := rfl
    cases hf : f i with
    | false =>
      simp only [cond_false]
      rw [same (.inl (by rw [hone, hf]; rfl)), e1]
      exact .go ih
    | true =>
      simp only [cond_true]
      by_cases hi : i < p.length
      · simp (disch := omega) only [ev_lt_t, cond_true]
        cases hs : st (p.getD i 0) with
        | false =>
          simp only [cond_false]
          rw [same (.inl (by rw [hone, hf, hs]; simp)), e1]
          exact .go ih
        | true =>
          rw [e1]
          simp (disch := omega) only [ev_lt_t, ev_le_t, cond_true, encF_at, splice_one, Int.toNat_natCast]
          have put : (encF (fun t => if t ≤ i then oneF st p f t else false) (p.length + 1)).set (i + 1) [.bool true] = encF (fun t => if t ≤ i + 1 then oneF st p f t else false) (p.length + 1) := by
            rw [encF_set true (by omega)]
            refine encF_congr fun t ht => ?_
            by_cases e : t = i + 1
            · subst e; rw [if_pos rfl, if_pos (Nat.le_refl _), hone, hf, hs]; simp [hi]
            · rw [if_neg e]
              by_cases e2 : t ≤ i
              · rw [if_pos e2, if_pos (by omega)]
              · rw [if_neg e2, if_neg (by omega)]
          rw [put]
          exact .go ih
      · simp (disch := omega) only [ev_lt_f, cond_false]
        rw [same (.inr (by omega)), e1]
        exact .go ih
end Go.Ab
namespace Go.Ab
open Go.Proofs

/-! ### elements -/
theorem byteEq (b c : UInt8) : ((b.toNat : Int) == (c.toNat : Int)) = (b == c) := by
  rw [Bool.eq_iff_iff, beq_iff_eq, beq_iff_eq]
  constructor
  · intro h; exact UInt8.toNat_inj.1 (by omega)
  · rintro rfl; rfl
theorem inR_enc (rs : List (UInt8 × UInt8)) (b : UInt8) : inR (encRs rs) (b.toNat : Int) = inRs rs b := by
  unfold inR encRs inRs
  rw [List.any_map]
  congr 1
  funext r
  obtain ⟨x, y⟩ := r
  show (leI (x.toNat : Int) (b.toNat : Int) && leI (b.toNat : Int) (y.toNat : Int)) = _
  rw [leI_eq, leI_eq]
  congr 1 <;> (apply decide_eq_decide.2; rw [UInt8.le_iff_toNat_le]; dsimp only; omega)
/-- How many ranges an element has. -/
def elLen : El → Nat | .set _ rs => rs.length | _ => 0
theorem rangesP_len : ∀ l : List UInt8, (rangesP l).1.length ≤ l.length
  | [] => by simp [rangesP]
  | [a] => by simp [rangesP]
  | [a, b] => by simp [rangesP]
  | a :: d :: b :: r => by
    have h1 := rangesP_len r
    have h2 := rangesP_len (d :: b :: r)
    rw [rangesP]
    split
    · split
      · simp
      · simp; omega
    · simp at h2 ⊢; omega
theorem setE_len (l : List UInt8) : elLen (setE l) ≤ l.length := by
  have := rangesP_len (bodyB l)
  have h : (bodyB l).length ≤ l.length := by unfold bodyB; split <;> simp
  show (rangesP (bodyB l)).1.length ≤ _
  omega
theorem elem1_len {vis : Bool} {g : List UInt8} {e : El} {w : Nat} (h : elem1 vis g = some (e, w)) : elLen e ≤ g.length := by
  unfold elem1 at h
  split at h
  · cases h
  rename_i b r
  repeat' split at h
  all_goals cases h
  all_goals first
    | (simp [elLen]; done)
    | (have := setE_len (r.take (ixI r 93).toNat)
       simp at this ⊢; omega)
theorem parseE_len (vis : Bool) : ∀ (k : Nat) (g : List UInt8) (l : List El), g.length ≤ k → parseE vis g = some l → l.length ≤ g.length ∧ ∀ e ∈ l, elLen e ≤ g.length
  | _, [], l, _, h => by rw [parseE_nil] at h; cases h; simp
  | 0, _ :: _, _, hk, _ => by simp at hk
  | k + 1, b :: r, l, hk, h => by
    rw [parseE_cons] at h
    cases he : elem1 vis (b :: r) with
    | none => rw [he] at h; cases h
    | some p =>
      obtain ⟨e, w⟩ := p
      obtain ⟨h1, h2⟩ := elem1_width he
      have h3 := elem1_len he
      rw [he] at h
      simp only [Option.map_eq_some_iff] at h
      obtain ⟨l', hl', rfl⟩ := h
      have ih := parseE_len vis k ((b :: r).drop w) l' (by simp only [List.length_drop, List.length_cons] at *; omega) hl'
      simp only [List.length_drop, List.length_cons] at ih h2 h3 ⊢
      refine ⟨by omega, fun x hx => ?_⟩
      rcases List.mem_cons.1 hx with rfl | hx
      · omega
      · have := ih.2 x hx; omega
theorem getEl {els : List El} {j : Nat} (h : j < els.length) (enc : El → List L) : atL (els.map enc) (j : Int) = enc (els.getD j .one) := atL_map enc els j .one h
theorem rep_len (n : Nat) : (List.replicate n [L.bool false]).length = n := by simp

theorem start_row (n : Nat) : (List.replicate (n + 1) [L.bool false]).set 0 (splice 0 [L.bool true] (atL (List.replicate (n + 1) [L.bool false]) 0)) = encF (fun i => i == 0) (n + 1) := by
  have h := encF_at (f := fun _ => false) (n := n + 1) (i := 0) (by omega)
  rw [encF_rep]
  rw [show (0 : Int) = ((0 : Nat) : Int) from rfl, h, splice_one, encF_set true (by omega)]
  refine encF_congr fun i hi => ?_
  by_cases e : i = 0
  · subst e; rfl
  · rw [if_neg e]; symm; simpa using e

theorem Match_loop (p : List UInt8) (hp : p.length ≤ 1000000) (els : List El) (he : els.length ≤ 1000000) (hr : ∀ e ∈ els, elLen e ≤ 1000000) : ∀ m j (f : Nat → Bool), j + m = els.length →
    Runs (cfg [k_Right, k_parse, k_stands]) (Match_q7 (mk p) (els.length : Int) (j : Int) (encF f (p.length + 1)) (els.map encG)) [.bool (runF (els.drop j) p f p.length)]
  | 0, j, f, h => by
    refine Runs.by (Match_p7 · _ _ _ _ _) ?_
    have hsz : (mk p).size = p.length := rfl
    rw [List.drop_eq_nil_of_le (by omega)]
    simp (disch := omega) only [hsz, encF_len, ev_lt_f, ev_lt_t, ev_le_t, cond_false, Bool.and_self, cond_true, encF_at, cO_one]
    exact .ret
  | m + 1, j, f, h => by
    refine Runs.by (Match_p7 · _ _ _ _ _) ?_
    have hj : j < els.length := by omega
    have hd : els.drop j = els.getD j .one :: els.drop (j + 1) := by rw [List.drop_eq_getElem_cons hj]; simp [List.getD, hj]
    have hmem : els.getD j .one ∈ els := by simp [List.getD, hj]
    have hlen := hr _ hmem
    have ih := fun f => Match_loop p hp els he hr m (j + 1) f (by omega)
    have e1 : ((j + 1 : Nat) : Int) = (j : Int) + 1 := by omega
    have e2 : ((p.length : Int) + 1).toNat = p.length + 1 := by omega
    have e3 : ((p.length + 1 : Nat) : Int) = (p.length : Int) + 1 := by omega
    have e4 : ((0 : Nat) : Int) = 0 := rfl
    have hsz : (mk p).size = p.length := rfl
    rw [hd, getEl hj]
    generalize els.getD j .one = e at *
    simp (disch := omega) only [hsz, List.length_map, encF_len, ev_lt_t, ev_le_t, Bool.and_self, cond_true, w64, Int.mul_one, Int.natCast_one, e2, e3]
    have hrun : ∀ f, runF (e :: els.drop (j + 1)) p f p.length = runF (els.drop (j + 1)) p (stepF e p f) p.length := fun f => rfl
    rw [hrun]
    have hw : wrapI .i64 ((j : Int) + 1) = (j : Int) + 1 := w64 (by omega) (by omega)
    have ih' := ih (stepF e p f)
    rw [e1] at ih'
    rw [encF_rep]
    -- the two kinds of step
    have star : ∀ (k c0 : Int) (nt : Bool) xs (ok : UInt8 → Bool), ((k = 1 ∧ ok = fun _ => true) ∨ (k = 2 ∧ ok = fun b => b != 47)) → stepF e p f = starF ok p f →
        RunsF (cfg [k_Right, k_parse, k_stands]) (fun G => G (Match_q11 (mk p) (els.length : Int) (j : Int) ((p.length : Int) + 1) 0 k c0 nt xs (encF (fun _ => false) (p.length + 1)) (els.map encG) (encF f (p.length + 1)))) [.bool (runF (els.drop (j + 1)) p (stepF e p f) p.length)] := by
      intro k c0 nt xs ok hk hs
      rw [hs] at ih' ⊢
      have := Match_star p hp f k c0 nt xs ok hk (els.length : Int) (j : Int) (els.map encG) _ hw ih' (p.length + 1) 0 (by omega)
      rw [e3, e4] at this
      have e5 : encF (fun t => if t < 0 then starF ok p f t else false) (p.length + 1) = encF (fun _ => false) (p.length + 1) := encF_congr fun t _ => if_neg (by omega)
      rw [e5] at this
      exact .go this
    have one : ∀ (k c0 : Int) (nt : Bool) xs, xs.length ≤ 1000000 → k ≠ 1 → k ≠ 2 → (∀ b : UInt8, standsR k c0 nt xs (b.toNat : Int) = standE e b) → stepF e p f = oneF (standE e) p f →
        RunsF (cfg [k_Right, k_parse, k_stands]) (fun G => G (Match_q11 (mk p) (els.length : Int) (j : Int) ((p.length : Int) + 1) 0 k c0 nt xs (encF (fun _ => false) (p.length + 1)) (els.map encG) (encF f (p.length + 1)))) [.bool (runF (els.drop (j + 1)) p (stepF e p f) p.length)] := by
      intro k c0 nt xs hxs hk1 hk2 hst hs
      rw [hs] at ih' ⊢
      have := Match_one p hp f k c0 nt xs hxs (standE e) hk1 hk2 hst (els.length : Int) (j : Int) (els.map encG) _ hw ih' (p.length + 1) 0 (by omega)
      rw [e3, e4] at this
      have e5 : encF (fun t => if t ≤ 0 then oneF (standE e) p f t else false) (p.length + 1) = encF (fun _ => false) (p.length + 1) := encF_congr fun t _ => by
        split
        · have : t = 0 := by omega
          subst this; rfl
        · rfl
      rw [e5] at this
      exact .go this
    cases e with
    | any2 => exact star 1 42 false [] _ (.inl ⟨rfl, rfl⟩) rfl
    | any1 => exact star 2 42 false [] _ (.inr ⟨rfl, rfl⟩) rfl
    | byte c => exact one 0 (c.toNat : Int) false [] (by simp) (by decide) (by decide) (fun b => by simp only [standsR, if_true]; exact byteEq b c) rfl
    | one => exact one 3 63 false [] (by simp) (by decide) (by decide) (fun b => by simp only [standsR]; exact byte47 b) rfl
    | set neg rs =>
      exact one 4 0 neg (encRs rs) (by rw [encRs_len]; exact hlen) (by decide) (by decide) (fun b => by
        have h1 : standsR 4 0 neg (encRs rs) (b.toNat : Int) = ((b.toNat : Int) != 47 && (inR (encRs rs) (b.toNat : Int) != neg)) := by simp [standsR]
        rw [h1, byte47, inR_enc]; rfl) rfl
theorem Match_holds : Holds k_Match := con_run (xs := [k_Right, k_parse, k_stands]) (hold1 Right_holds (hold1 parse_holds (hold1 stands_holds hold0))) fun aa hp r h => by
  split at h
  case h_2 => cases h
  rename_i s t
  obtain ⟨g, rfl⟩ := xo h
  rw [Bool.and_eq_true, Nat.ble_eq, Nat.ble_eq] at g
  obtain ⟨l, rfl⟩ := str_cases s
  obtain ⟨p, rfl⟩ := str_cases t
  rw [size_mk, size_mk] at g
  refine Runs.by (Match_e · _ _) ?_
  rw [bl_mk, bl_mk]
  have hszp : (mk p).size = p.length := rfl
  have hszl : (mk l).size = l.length := rfl
  have e2 : ((p.length : Int) + 1).toNat = p.length + 1 := by omega
  have e3 : ((p.length + 1 : Nat) : Int) = (p.length : Int) + 1 := by omega
  have hne : (rightE l != 0) = !(rightE l == 0) := rfl
  simp (disch := omega) only [hszp, hszl, ev_blt, cond_true, w64, ev_le_t, ev_lt_t, Bool.and_self, Int.mul_one, Int.natCast_one, e2, rep_len, start_row, hne, List.length_map]
  unfold matchE
  cases hr : rightE l == 0 with
  | false => exact .ret
  | true =>
    simp only [Bool.not_true, cond_false, Bool.true_and]
    have hlt : ((parseE true l).getD []).length ≤ 1000000 ∧ ∀ e ∈ (parseE true l).getD [], elLen e ≤ 1000000 := by
      cases hq : parseE true l with
      | none => simp
      | some els =>
        obtain ⟨h1, h2⟩ := parseE_len true _ l els (Nat.le_refl _) hq
        exact ⟨by simp only [Option.getD_some]; omega, fun e he => by have := h2 e he; omega⟩
    have := Match_loop p g.2 _ hlt.1 hlt.2 _ 0 (fun i => i == 0) (Nat.zero_add _)
    exact .go this
end Go.Ab
namespace Go.Ab
open Go.Proofs

/-- All bytes from i to j are passed. -/
def seg (ok : UInt8 → Bool) (p : List UInt8) (i : Nat) : Nat → Bool
  | 0 => true
  | j + 1 => seg ok p i j && (decide (j < i) || ok (p.getD j 0))
def upTo (f : Nat → Bool) (i : Nat) (t : Nat) : Bool := decide (t < i) && f t
theorem seg_self (ok : UInt8 → Bool) (p : List UInt8) (i : Nat) : ∀ j, j ≤ i → seg ok p i j = true
  | 0, _ => rfl
  | j + 1, h => by simp only [seg, seg_self ok p i j (by omega)]; simp; left; omega
theorem seg_down (ok : UInt8 → Bool) (p : List UInt8) (i : Nat) : ∀ {j k : Nat}, j ≤ k → seg ok p i k = true → seg ok p i j = true := by
  intro j k h
  induction k with
  | zero => intro _; have : j = 0 := by omega
            subst this; rfl
  | succ k ih =>
    intro hs
    by_cases e : j = k + 1
    · rw [e]; exact hs
    · simp only [seg, Bool.and_eq_true] at hs
      exact ih (by omega) hs.1
/-- One more offset to begin at. -/
theorem starF_more (ok : UInt8 → Bool) (p : List UInt8) (f : Nat → Bool) (i : Nat) (hf : f i = true) : ∀ j, starF ok p (upTo f (i + 1)) j = (starF ok p (upTo f i) j || (decide (i ≤ j) && seg ok p i j))
  | 0 => by
    simp only [starF, upTo, seg]
    by_cases h : i = 0
    · subst h; simp [hf]
    · have h1 : decide (0 < i) = true := by simp; omega
      have h2 : decide (i ≤ 0) = false := by simp; omega
      rw [h1, h2]; simp
  | j + 1 => by
    have ih := starF_more ok p f i hf j
    simp only [starF, seg, ih, upTo]
    rcases Nat.lt_trichotomy (j + 1) i with h | h | h
    · have h1 : decide (j + 1 < i) = true := by simpa using h
      have h2 : decide (j + 1 < i + 1) = true := by simp; omega
      have h3 : decide (i ≤ j + 1) = false := by simp; omega
      have h4 : decide (i ≤ j) = false := by simp; omega
      rw [h1, h2, h3, h4]; simp
    · subst h
      have h4 : decide (j + 1 ≤ j) = false := by simp
      rw [h4, seg_self ok p (j + 1) j (by omega)]
      simp [hf]
    · have h1 : decide (j + 1 < i) = false := by simp; omega
      have h2 : decide (j + 1 < i + 1) = false := by simp; omega
      have h3 : decide (i ≤ j + 1) = true := by simp; omega
      have h4 : decide (i ≤ j) = true := by simp; omega
      have h5 : decide (j < i) = false := by simp; omega
      rw [h1, h2, h3, h4, h5]
      simp only [Bool.false_and, Bool.false_or, Bool.true_and]
      cases starF ok p (upTo f i) j <;> cases seg ok p i j <;> cases ok (p.getD j 0) <;> rfl
theorem starF_same (ok : UInt8 → Bool) (p : List UInt8) (f : Nat → Bool) (i : Nat) (hf : f i = false) : ∀ j, starF ok p (upTo f (i + 1)) j = starF ok p (upTo f i) j := by
  have : upTo f (i + 1) = upTo f i := by
    funext t
    unfold upTo
    by_cases h : t = i
    · subst h; simp [hf]
    · have : decide (t < i + 1) = decide (t < i) := by apply decide_eq_decide.2; omega
      rw [this]
  intro j; rw [this]
theorem starF_all (ok : UInt8 → Bool) (p : List UInt8) (f : Nat → Bool) (n : Nat) : ∀ j, j < n → starF ok p (upTo f n) j = starF ok p f j
  | 0, h => by simp [starF, upTo, h]
  | j + 1, h => by
    have := starF_all ok p f n j (by omega)
    simp only [starF, this]
    simp [upTo, h]

/-- The bytes behind an offset. -/
theorem step_in (p : List UInt8) (hp : p.length ≤ 1000000) (fr : List (List L)) (hfr : fr.length = p.length + 1) (k c0 : Int) (nt : Bool) (xs : List (List L)) (ok : UInt8 → Bool) (hk : (k = 4 ∧ ok = fun _ => true) ∨ (k = 3 ∧ ok = fun b => b != 47)) (base : Nat → Bool) (i : Nat) (hi : i ≤ p.length) (r : List L)
    (hr : Runs (cfg [k_one]) (step_q3 (mk p) fr ((i : Int) + 1) k c0 nt xs (encF (fun j => base j || (decide (i ≤ j) && seg ok p i j)) (p.length + 1))) r) :
    ∀ m q, i ≤ q → q + m = p.length → seg ok p i q = true →
    Runs (cfg [k_one]) (step_q9 (mk p) fr (i : Int) (q : Int) k c0 nt xs (encF (fun j => base j || (decide (i ≤ j) && decide (j ≤ q))) (p.length + 1))) r
  | 0, q, hq, h, hs => by
    refine Runs.by (step_p9 · _ _ _ _ _ _ _ _ _) ?_
    have hsz : (mk p).size = p.length := rfl
    simp (disch := omega) only [hsz, ev_lt_f, cond_false, w64]
    have : encF (fun j => base j || (decide (i ≤ j) && decide (j ≤ q))) (p.length + 1) = encF (fun j => base j || (decide (i ≤ j) && seg ok p i j)) (p.length + 1) := by
      refine encF_congr fun j hj => ?_
      have h1 : decide (j ≤ q) = true := by simp; omega
      rw [h1, seg_down ok p i (show j ≤ q by omega) hs]
    rw [this]
    exact .go hr
  | m + 1, q, hq, h, hs => by
    refine Runs.by (step_p9 · _ _ _ _ _ _ _ _ _) ?_
    have ih := step_in p hp fr hfr k c0 nt xs ok hk base i hi r hr m (q + 1) (by omega) (by omega)
    have hsz : (mk p).size = p.length := rfl
    have e1 : (q : Int) + 1 = ((q + 1 : Nat) : Int) := by omega
    have hw : wrapI .i64 ((q : Int) + 1) = ((q + 1 : Nat) : Int) := by rw [w64 (by omega) (by omega), e1]
    have hsegq : seg ok p i (q + 1) = ok (p.getD q 0) := by simp only [seg, hs]; simp; intro h; omega
    have put : (encF (fun j => base j || (decide (i ≤ j) && decide (j ≤ q))) (p.length + 1)).set (q + 1) [.bool true] = encF (fun j => base j || (decide (i ≤ j) && decide (j ≤ q + 1))) (p.length + 1) := by
      rw [encF_set true (by omega)]
      refine encF_congr fun j hj => ?_
      by_cases e : j = q + 1
      · subst e
        have h1 : decide (i ≤ q + 1) = true := by simp; omega
        rw [if_pos rfl, h1]; simp
      · rw [if_neg e]
        have : decide (j ≤ q) = decide (j ≤ q + 1) := by apply decide_eq_decide.2; omega
        rw [this]
    rw [hw]
    simp (disch := omega) only [hsz, ev_lt_t, cond_true, encF_len, ev_le_t, Bool.and_self, encF_at, splice_one, Int.toNat_natCast, byI_mk, byte47, put]
    rcases hk with ⟨rfl, hok⟩ | ⟨rfl, hok⟩
    · simp (disch := omega) only [ev_eq_t, cond_true]
      exact .go (ih (by rw [hsegq, hok]))
    · simp (disch := omega) only [ev_eq_f, cond_false]
      cases hb : (p.getD q 0 != 47) with
      | true =>
        simp only [cond_true]
        exact .go (ih (by rw [hsegq, hok]; exact hb))
      | false =>
        simp (disch := omega) only [cond_false, w64]
        have hsq : seg ok p i (q + 1) = false := by rw [hsegq, hok]; exact hb
        have : encF (fun j => base j || (decide (i ≤ j) && decide (j ≤ q))) (p.length + 1) = encF (fun j => base j || (decide (i ≤ j) && seg ok p i j)) (p.length + 1) := by
          refine encF_congr fun j hj => ?_
          by_cases e : j ≤ q
          · rw [decide_eq_true e, seg_down ok p i e hs]
          · rw [decide_eq_false e]
            have : seg ok p i j = false := by
              cases hh : seg ok p i j with
              | false => rfl
              | true => rw [seg_down ok p i (show q + 1 ≤ j by omega) hh] at hsq; cases hsq
            rw [this]
        rw [this]
        exact .go hr
theorem step_star (p : List UInt8) (hp : p.length ≤ 1000000) (fr : List (List L)) (hfr : fr.length = p.length + 1) (k c0 : Int) (nt : Bool) (xs : List (List L)) (ok : UInt8 → Bool) (hk : (k = 4 ∧ ok = fun _ => true) ∨ (k = 3 ∧ ok = fun b => b != 47)) : ∀ m i, i + m = p.length + 1 →
    Runs (cfg [k_one]) (step_q3 (mk p) fr (i : Int) k c0 nt xs (encF (starF ok p (upTo (rowF fr) i)) (p.length + 1))) [.lst 4 (encF (starF ok p (rowF fr)) (p.length + 1))]
  | 0, i, h => by
    refine Runs.by (step_p3 · _ _ _ _ _ _ _ _) ?_
    have hsz : (mk p).size = p.length := rfl
    simp (disch := omega) only [hsz, ev_le_f, cond_false]
    have : encF (starF ok p (upTo (rowF fr) i)) (p.length + 1) = encF (starF ok p (rowF fr)) (p.length + 1) := encF_congr fun j hj => starF_all ok p (rowF fr) i j (by omega)
    rw [this]
    exact .ret
  | m + 1, i, h => by
    refine Runs.by (step_p3 · _ _ _ _ _ _ _ _) ?_
    have ih := step_star p hp fr hfr k c0 nt xs ok hk m (i + 1) (by omega)
    have hsz : (mk p).size = p.length := rfl
    have e1 : ((i + 1 : Nat) : Int) = (i : Int) + 1 := by omega
    have hat : cO 0 (atL fr (i : Int)) = rowF fr i := by unfold atL rowF; rw [Int.toNat_natCast]; rfl
    simp (disch := omega) only [hsz, hfr, hat, encF_len, ev_le_t, ev_lt_t, cond_true, Bool.and_self, encF_at, splice_one, Int.toNat_natCast, w64]
    cases hf : rowF fr i with
    | false =>
      simp only [Bool.not_false, cond_true]
      have : encF (starF ok p (upTo (rowF fr) (i + 1))) (p.length + 1) = encF (starF ok p (upTo (rowF fr) i)) (p.length + 1) := encF_congr fun j _ => starF_same ok p (rowF fr) i hf j
      rw [this, e1] at ih
      exact .go ih
    | true =>
      simp only [Bool.not_true, cond_false]
      have e2 : encF (starF ok p (upTo (rowF fr) (i + 1))) (p.length + 1) = encF (fun j => starF ok p (upTo (rowF fr) i) j || (decide (i ≤ j) && seg ok p i j)) (p.length + 1) := encF_congr fun j _ => starF_more ok p (rowF fr) i hf j
      rw [e2, e1] at ih
      have hin := step_in p hp fr hfr k c0 nt xs ok hk (starF ok p (upTo (rowF fr) i)) i (by omega) _ ih (p.length - i) i (Nat.le_refl _) (by omega) (seg_self ok p i i (Nat.le_refl _))
      have put : (encF (starF ok p (upTo (rowF fr) i)) (p.length + 1)).set i [.bool true] = encF (fun j => starF ok p (upTo (rowF fr) i) j || (decide (i ≤ j) && decide (j ≤ i))) (p.length + 1) := by
        rw [encF_set true (by omega)]
        refine encF_congr fun j hj => ?_
        by_cases e : j = i
        · subst e; rw [if_pos rfl]; simp
        · rw [if_neg e]
          have : (decide (i ≤ j) && decide (j ≤ i)) = false := by simp; omega
          rw [this, Bool.or_false]
      rw [put]
      rcases hk with ⟨rfl, _⟩ | ⟨rfl, _⟩
      · simp (disch := omega) only [ev_eq_t, ev_eq_f, cond_true, cond_false]; exact .go hin
      · simp (disch := omega) only [ev_eq_t, ev_eq_f, cond_true, cond_false]; exact .go hin
theorem step_one (p : List UInt8) (hp : p.length ≤ 1000000) (fr : List (List L)) (hfr : fr.length = p.length + 1) (k c0 : Int) (nt : Bool) (xs : List (List L)) (hxs : xs.length ≤ 1000000) (h3 : k ≠ 3) (h4 : k ≠ 4) : ∀ m i, i + m = p.length + 1 →
    Runs (cfg [k_one]) (step_q3 (mk p) fr (i : Int) k c0 nt xs (encF (fun t => if t ≤ i then oneF (fun b => oneR k c0 nt xs (b.toNat : Int)) p (rowF fr) t else false) (p.length + 1))) [.lst 4 (encF (oneF (fun b => oneR k c0 nt xs (b.toNat : Int)) p (rowF fr)) (p.length + 1))]
  | 0, i, h => by
    refine Runs.by (step_p3 · _ _ _ _ _ _ _ _) ?_
    have hsz : (mk p).size = p.length := rfl
    simp (disch := omega) only [hsz, ev_le_f, cond_false]
    exact .ret' (by congr 2; exact encF_congr fun j hj => if_pos (by omega))
  | m + 1, i, h => by
    refine Runs.by (step_p3 · _ _ _ _ _ _ _ _) ?_
    have ih := step_one p hp fr hfr k c0 nt xs hxs h3 h4 m (i + 1) (by omega)
    have hsz : (mk p).size = p.length := rfl
    have e1 : (i : Int) + 1 = ((i + 1 : Nat) : Int) := by omega
    have hat : cO 0 (atL fr (i : Int)) = rowF fr i := by unfold atL rowF; rw [Int.toNat_natCast]; rfl
    have hw : wrapI .i64 ((i : Int) + 1) = ((i + 1 : Nat) : Int) := by rw [w64 (by omega) (by omega), e1]
    rw [hw]
    generalize hst : (fun b : UInt8 => oneR k c0 nt xs (b.toNat : Int)) = st at *
    have hst' : ∀ b : UInt8, oneR k c0 nt xs (b.toNat : Int) = st b := fun b => by rw [← hst]
    have same : oneF st p (rowF fr) (i + 1) = false ∨ i + 1 = p.length + 1 → encF (fun t => if t ≤ i then oneF st p (rowF fr) t else false) (p.length + 1) = encF (fun t => if t ≤ i + 1 then oneF st p (rowF fr) t else false) (p.length + 1) := fun hc => by
      refine encF_congr fun t ht => ?_
      by_cases e : t ≤ i
      · rw [if_pos e, if_pos (by omega)]
      · rw [if_neg e]
        by_cases e2 : t ≤ i + 1
        · obtain rfl : t = i + 1 := by omega
          rw [if_pos e2]
          rcases hc with hc | hc
          · exact hc.symm
          · omega
        · rw [if_neg e2]
    have hone : oneF st p (rowF fr) (i + 1) = (rowF fr i && (decide (i < p.length) && st (p.getD i 0))) := rfl
    simp (disch := omega) only [hsz, hfr, hat, encF_len, ev_le_t, ev_lt_t, ev_eq_f, cond_true, cond_false, Bool.and_self, byI_mk, hst', ev_blt]
    cases hf : rowF fr i with
    | false =>
      simp only [Bool.not_false, cond_true]
      rw [same (.inl (by rw [hone, hf]; rfl))]
      exact .go ih
    | true =>
      simp only [Bool.not_true, cond_false]
      by_cases hi : i < p.length
      · simp (disch := omega) only [ev_lt_t, cond_true]
        cases hs : st (p.getD i 0) with
        | false =>
          simp only [cond_false]
          rw [same (.inl (by rw [hone, hf, hs]; simp))]
          exact .go ih
        | true =>
          simp (disch := omega) only [cond_true, encF_at, splice_one, Int.toNat_natCast]
          have put : (encF (fun t => if t ≤ i then oneF st p (rowF fr) t else false) (p.length + 1)).set (i + 1) [.bool true] = encF (fun t => if t ≤ i + 1 then oneF st p (rowF fr) t else false) (p.length + 1) := by
            rw [encF_set true (by omega)]
            refine encF_congr fun t ht => ?_
            by_cases e : t = i + 1
            · subst e; rw [if_pos rfl, if_pos (Nat.le_refl _), hone, hf, hs]; simp [hi]
            · rw [if_neg e]
              by_cases e2 : t ≤ i
              · rw [if_pos e2, if_pos (by omega)]
              · rw [if_neg e2, if_neg (by omega)]
          simp (disch := omega) only [ev_le_t, ev_lt_t, Bool.and_self, cond_true]
          rw [put]
          exact .go ih
      · simp (disch := omega) only [ev_lt_f, cond_false]
        rw [same (.inr (by omega))]
        exact .go ih
theorem step_holds : Holds k_step := con_run (xs := [k_one]) (hold1 one_holds hold0) fun aa hp r h => by
  split at h
  case h_2 => cases h
  rename_i k c nt xs s fr
  obtain ⟨g, rfl⟩ := xo h
  simp only [Bool.and_eq_true, Nat.ble_eq] at g
  obtain ⟨g1, g2, g3⟩ := g
  have g3 := Nat.eq_of_beq_eq_true g3
  obtain ⟨p, rfl⟩ := str_cases s
  rw [size_mk] at g2 g3
  refine Runs.by (step_e · _ _ _ _ _ _) ?_
  have hszp : (mk p).size = p.length := rfl
  have e2 : ((p.length : Int) + 1).toNat = p.length + 1 := by omega
  simp (disch := omega) only [hszp, w64, ev_le_t, Bool.and_self, cond_true, Int.mul_one, Int.natCast_one, e2, bl_mk]
  rw [encF_rep]
  unfold stepR
  have z : ∀ (ok : UInt8 → Bool), encF (starF ok p (upTo (rowF fr) 0)) (p.length + 1) = encF (fun _ => false) (p.length + 1) := fun ok => encF_congr fun j hj => by
    clear hj
    induction j with
    | zero => simp [starF, upTo]
    | succ j ih => simp only [starF, ih]; simp [upTo]
  by_cases h4 : k = 4
  · have := step_star p g2 fr g3 k c nt xs (fun _ => true) (.inl ⟨h4, rfl⟩) (p.length + 1) 0 (by omega)
    rw [z] at this
    rw [if_pos h4]
    exact .go this
  · by_cases h3 : k = 3
    · have := step_star p g2 fr g3 k c nt xs (fun b => b != 47) (.inr ⟨h3, rfl⟩) (p.length + 1) 0 (by omega)
      rw [z] at this
      rw [if_neg h4, if_pos h3]
      exact .go this
    · have := step_one p g2 fr g3 k c nt xs g1 h3 h4 (p.length + 1) 0 (by omega)
      have z2 : encF (fun t => if t ≤ 0 then oneF (fun b => oneR k c nt xs (b.toNat : Int)) p (rowF fr) t else false) (p.length + 1) = encF (fun _ => false) (p.length + 1) := encF_congr fun t _ => by
        split
        · have : t = 0 := by omega
          subst this; rfl
        · rfl
      rw [z2] at this
      rw [if_neg h4, if_neg h3]
      exact .go this
end Go.Ab
namespace Go.Ab
open Go.Proofs

theorem rowF_enc {f : Nat → Bool} {n i : Nat} (h : i < n) : rowF (encF f n) i = f i := by
  have := encF_at (f := f) h
  unfold atL at this
  rw [Int.toNat_natCast] at this
  unfold rowF
  rw [this]; rfl
theorem starF_congr {ok : UInt8 → Bool} {p : List UInt8} {f g : Nat → Bool} : ∀ {j : Nat}, (∀ t, t ≤ j → f t = g t) → starF ok p f j = starF ok p g j
  | 0, h => h 0 (Nat.le_refl _)
  | j + 1, h => by simp only [starF]; rw [h _ (Nat.le_refl _), starF_congr (j := j) fun t ht => h t (by omega)]
theorem oneF_congr {st st' : UInt8 → Bool} {p : List UInt8} {f g : Nat → Bool} (hs : ∀ b, st b = st' b) : ∀ {j : Nat}, (∀ t, t ≤ j → f t = g t) → oneF st p f j = oneF st' p g j
  | 0, h => rfl
  | j + 1, h => by simp only [oneF]; rw [h j (by omega), hs]
theorem stepF_congr {e : El} {p : List UInt8} {f g : Nat → Bool} {j : Nat} (h : ∀ t, t ≤ j → f t = g t) : stepF e p f j = stepF e p g j := by
  cases e with
  | any1 => exact starF_congr h
  | any2 => exact starF_congr h
  | _ => exact oneF_congr (fun _ => rfl) h
/-- A step of the reference is a step. -/
theorem stepR_enc (e : El) (p : List UInt8) (f : Nat → Bool) (n : Nat) (j : Nat) (h : j < n) :
    stepR (cI 0 (encR e)) (cI 1 (encR e)) (cO 2 (encR e)) (cX 3 (encR e)) p (rowF (encF f n)) j = stepF e p f j := by
  have hc : ∀ t, t ≤ j → rowF (encF f n) t = f t := fun t ht => rowF_enc (by omega)
  cases e with
  | any2 => exact starF_congr hc
  | any1 => exact starF_congr hc
  | byte c =>
    show oneF (fun b => oneR 1 (c.toNat : Int) false [] (b.toNat : Int)) p _ j = oneF (standE (.byte c)) p f j
    refine oneF_congr (fun b => ?_) hc
    show oneR 1 (c.toNat : Int) false [] (b.toNat : Int) = (b == c)
    unfold oneR
    rw [if_pos rfl]
    exact byteEq b c
  | one =>
    show oneF (fun b => oneR 2 0 false [] (b.toNat : Int)) p _ j = oneF (standE .one) p f j
    refine oneF_congr (fun b => ?_) hc
    show oneR 2 0 false [] (b.toNat : Int) = (b != 47)
    rw [← byte47]
    unfold oneR
    by_cases h : (b.toNat : Int) = 47
    · rw [h]; rfl
    · rw [if_neg (by decide), if_neg h, if_pos rfl]; symm; simpa using h
  | set neg rs =>
    show oneF (fun b => oneR 5 0 neg (encRs rs) (b.toNat : Int)) p _ j = oneF (standE (.set neg rs)) p f j
    refine oneF_congr (fun b => ?_) hc
    show oneR 5 0 neg (encRs rs) (b.toNat : Int) = (b != 47 && (inRs rs b != neg))
    rw [← byte47, ← inR_enc]
    unfold oneR
    by_cases h : (b.toNat : Int) = 47
    · rw [h]; rfl
    · have : ((b.toNat : Int) != 47) = true := by simpa using h
      rw [if_neg (by decide), if_neg h, if_neg (by decide), this, Bool.true_and]
theorem encR_len (e : El) : (cX 3 (encR e)).length = elLen e := by
  cases e <;> first | rfl | exact encRs_len _
theorem rMatch_loop (p : List UInt8) (hp : p.length ≤ 1000000) (els : List El) (he : els.length ≤ 1000000) (hr : ∀ e ∈ els, elLen e ≤ 1000000) : ∀ m j (f : Nat → Bool), j + m = els.length →
    Runs (cfg [k_rRight, k_relems, k_step]) (rMatch_q7 (mk p) (j : Int) (els.map encR) (encF f (p.length + 1))) [.bool (runF (els.drop j) p f p.length)]
  | 0, j, f, h => by
    refine Runs.by (rMatch_p7 · _ _ _ _) ?_
    have hsz : (mk p).size = p.length := rfl
    rw [List.drop_eq_nil_of_le (by omega)]
    simp (disch := omega) only [hsz, List.length_map, encF_len, ev_lt_f, ev_lt_t, ev_le_t, cond_false, Bool.and_self, cond_true, encF_at, cO_one]
    exact .ret
  | m + 1, j, f, h => by
    refine Runs.by (rMatch_p7 · _ _ _ _) ?_
    have hj : j < els.length := by omega
    have hd : els.drop j = els.getD j .one :: els.drop (j + 1) := by rw [List.drop_eq_getElem_cons hj]; simp [List.getD, hj]
    have hmem : els.getD j .one ∈ els := by simp [List.getD, hj]
    have hlen := hr _ hmem
    have ih := fun f => rMatch_loop p hp els he hr m (j + 1) f (by omega)
    have e1 : ((j + 1 : Nat) : Int) = (j : Int) + 1 := by omega
    have hsz : (mk p).size = p.length := rfl
    rw [hd, getEl hj]
    generalize els.getD j .one = e at *
    have hb : Nat.beq (p.length + 1) (p.length + 1) = true := Nat.beq_refl _
    have hl := encR_len e
    simp (disch := omega) only [hsz, List.length_map, encF_len, ev_lt_t, ev_le_t, Bool.and_self, cond_true, w64, hl, ev_blt, hb, bl_mk]
    have hrun : runF (e :: els.drop (j + 1)) p f p.length = runF (els.drop (j + 1)) p (stepF e p f) p.length := rfl
    rw [hrun, encF_congr fun i hi => stepR_enc e p f (p.length + 1) i hi]
    have ih' := ih (stepF e p f)
    rw [e1] at ih'
    exact .go ih'
theorem rMatch_holds : Holds k_rMatch := con_run (xs := [k_rRight, k_relems, k_step]) (hold1 rRight_holds (hold1 relems_holds (hold1 step_holds hold0))) fun aa hp r h => by
  split at h
  case h_2 => cases h
  rename_i s t
  obtain ⟨g, rfl⟩ := xo h
  rw [Bool.and_eq_true, Nat.ble_eq, Nat.ble_eq] at g
  obtain ⟨l, rfl⟩ := str_cases s
  obtain ⟨p, rfl⟩ := str_cases t
  rw [size_mk, size_mk] at g
  refine Runs.by (rMatch_e · _ _) ?_
  rw [bl_mk, bl_mk]
  have hszp : (mk p).size = p.length := rfl
  have hszl : (mk l).size = l.length := rfl
  have e2 : ((p.length : Int) + 1).toNat = p.length + 1 := by omega
  have hne : (rightE l != 0) = !(rightE l == 0) := rfl
  simp (disch := omega) only [hszp, hszl, ev_blt, cond_true, w64, ev_le_t, ev_lt_t, Bool.and_self, Int.mul_one, Int.natCast_one, e2, rep_len, start_row, hne, List.length_map]
  unfold matchE
  cases hr : rightE l == 0 with
  | false => exact .ret
  | true =>
    simp only [Bool.not_true, cond_false, Bool.true_and]
    have hsame : parseE false l = parseE true l := by
      have hv := parse_vis _ l (Nat.le_refl _)
      have : (parseE true l).isSome = true := by
        unfold rightE at hr
        cases hq : (parseE true l).isSome with
        | true => rfl
        | false => rw [hq] at hr; revert hr; split <;> decide
      cases ha : l.all visB with
      | true => rw [ha] at hv; exact hv.symm
      | false => rw [ha] at hv; rw [hv] at this; cases this
    rw [hsame]
    have hlt : ((parseE true l).getD []).length ≤ 1000000 ∧ ∀ e ∈ (parseE true l).getD [], elLen e ≤ 1000000 := by
      cases hq : parseE true l with
      | none => simp
      | some els =>
        obtain ⟨h1, h2⟩ := parseE_len true _ l els (Nat.le_refl _) hq
        exact ⟨by simp only [Option.getD_some]; omega, fun e he => by have := h2 e he; omega⟩
    have := rMatch_loop p g.2 _ hlt.1 hlt.2 _ 0 (fun i => i == 0) (Nat.zero_add _)
    exact .go this

/-! ### the beginning -/
theorem indexAny_cases (l : List UInt8) : (Lib.indexAny l [42, 63, 91] = -1 ∧ prefixB l = l) ∨ ∃ m, m < l.length ∧ Lib.indexAny l [42, 63, 91] = (m : Int) ∧ prefixB l = l.take m ∧ (∃ b, l[m]? = some b ∧ spB b = true) := by
  induction l with
  | nil => left; exact ⟨rfl, rfl⟩
  | cons b l ih =>
    have hc : ([42, 63, 91] : List UInt8).contains b = spB b := by
      simp only [List.contains_cons, List.contains_nil, Bool.or_false, spB]
    cases hb : spB b with
    | true =>
      right
      refine ⟨0, by simp, ?_, by simp [prefixB, hb], b, rfl, hb⟩
      unfold Lib.indexAny
      rw [hc, hb]; rfl
    | false =>
      rcases ih with ⟨h1, h2⟩ | ⟨m, h0, h1, h2, x, h3, h4⟩
      · left
        have h2' : l.takeWhile (fun b => !spB b) = l := h2
        refine ⟨?_, by simp [prefixB, hb, h2']⟩
        unfold Lib.indexAny
        rw [hc, hb, h1]; rfl
      · right
        have h2' : l.takeWhile (fun b => !spB b) = l.take m := h2
        have : ((m : Int) == -1) = false := by simp
        refine ⟨m + 1, by simpa using h0, ?_, by simp [prefixB, hb, h2'], x, by simpa using h3, h4⟩
        unfold Lib.indexAny
        rw [hc, hb, h1, this]; rfl
theorem rPrefix_loop (l : List UInt8) (hl : l.length ≤ 1000000000000) : ∀ m i, i + m = l.length → (∀ b ∈ l.take i, spB b = false) → Runs (cfg []) (rPrefix_q2 (mk l) (i : Int)) [.str (mk (prefixB l))]
  | 0, i, h, hb => by
    refine Runs.by (rPrefix_p2 · _ _) ?_
    have hsz : (mk l).size = l.length := rfl
    simp (disch := omega) only [hsz, ev_lt_f, cond_false]
    refine .ret' ?_
    rcases indexAny_cases l with ⟨_, h2⟩ | ⟨m, h0, _, _, x, h3, h4⟩
    · rw [h2]
    · have := hb x (by rw [List.take_of_length_le (by omega)]; exact List.mem_of_getElem? h3)
      rw [h4] at this; cases this
  | m + 1, i, h, hb => by
    refine Runs.by (rPrefix_p2 · _ _) ?_
    obtain ⟨b, hd, hg, hc⟩ := getD_drop (l := l) (i := i) (by omega)
    have hsz : (mk l).size = l.length := rfl
    have h42 : ((b.toNat : Int) == 42) = (b == 42) := u8_eq (n := 42) (by decide)
    have h63 : ((b.toNat : Int) == 63) = (b == 63) := u8_eq (n := 63) (by decide)
    have h91 : ((b.toNat : Int) == 91) = (b == 91) := u8_eq (n := 91) (by decide)
    simp (disch := omega) only [hsz, byI_mk, ev_le_t, ev_lt_t, Bool.and_self, cond_true, w64, hg, h42, h63, h91, ext_mk, Int.toNat_natCast, List.drop_zero]
    have hsp : spB b = (b == 42 || (b == 63 || b == 91)) := rfl
    have stop : spB b = true → l.take i = prefixB l := fun hs => by
      have hl' : l = l.take i ++ b :: l.drop (i + 1) := by rw [← hd, List.take_append_drop]
      unfold prefixB
      conv => rhs; rw [hl']
      rw [List.takeWhile_append_of_pos (fun x hx => by simp [hb x hx]), List.takeWhile_cons_of_neg (by simp [hs]), List.append_nil]
    have ih := fun (hs : spB b = false) => rPrefix_loop l hl m (i + 1) (by omega) (by
      intro x hx
      rw [List.take_add_one, List.mem_append, hc] at hx
      rcases hx with hx | hx
      · exact hb x hx
      · simp at hx; rw [hx]; exact hs)
    cases c1 : b == 42 with
    | true => simp only [cond_true]; exact .ret' (by rw [stop (by rw [hsp, c1]; rfl)])
    | false =>
      cases c2 : b == 63 with
      | true => simp only [cond_true, cond_false]; exact .ret' (by rw [stop (by rw [hsp, c1, c2]; rfl)])
      | false =>
        cases c3 : b == 91 with
        | true => simp only [cond_true, cond_false]; exact .ret' (by rw [stop (by rw [hsp, c1, c2, c3]; rfl)])
        | false => simp only [cond_false]; exact .go (ih (by rw [hsp, c1, c2, c3]; rfl))
theorem rPrefix_holds : Holds k_rPrefix := cS_of (xs := []) hold0 fun l hl => by
  refine Runs.by (rPrefix_e · _) ?_
  exact .go (rPrefix_loop l hl l.length 0 (by omega) (by simp))
end Go.Ab
namespace Go.Ab
open Go.Proofs

theorem arr1 {vs : Array Value} {a : Value} (h : vs.toList = [a]) : vs = #[a] := by rw [← Array.toArray_toList (xs := vs), h]
theorem args_i {C : Cfg} {w : World} {fz : Fz} {ρ : Rho} {vs : Array Value} {k : IntKind} {c : Int} (h : RepDs (Rep C.P w fz ρ) vs.toList [.lf (.int k c)]) : vs = #[.int k c] := by
  match hv : vs.toList, h with
  | [a], h =>
    simp only [RepDs, RepD] at h
    rw [arr1 hv, rep_int h.1]
theorem ValidRune_holds : Holds k_ValidRune := extFor_plain (C := cfg []) (fn := Tryd.f55) (t := 4) (k := .bool) Tryd.func55 rfl (by kernel_rfl) (by kernel_rfl) (by simp) fun aa hp r h => by
  simp only [k_ValidRune] at h
  split at h
  case h_2 => cases h
  rename_i c
  obtain ⟨_, rfl⟩ := xo h
  refine ⟨_, rfl, rfl, ⟨_, rfl⟩, fun w fz ρ vs ha => ⟨_, .bool _, ?_⟩⟩
  rw [args_i ha]
  exact Tryd.utf8_ValidRune c w
theorem useSet_holds : Holds k_useSet := extFor_plain (C := cfg []) (fn := Tryd.f45) (t := 4) (k := .bool) Tryd.func45 rfl (by kernel_rfl) (by kernel_rfl) (by simp) fun aa hp r h => by
  simp only [k_useSet] at h
  split at h
  case h_2 => cases h
  rename_i c
  obtain ⟨_, rfl⟩ := xo h
  refine ⟨_, rfl, rfl, ⟨_, rfl⟩, fun w fz ρ vs ha => ⟨_, .bool _, ?_⟩⟩
  rw [args_i ha, ltI_eq]
  exact Tryd.strings_shouldUseASCIISet c w
theorem noSet_holds : Holds k_noSet := con_run (xs := []) hold0 fun aa hp r h => by cases h

/-! ### runes -/
theorem encode_big {c : Int} (hv : Lib.validRune c = true) (h : 128 ≤ c) : ∃ bs : List UInt8, Utf8.encode c = mk bs ∧ 2 ≤ bs.length ∧ bs.length ≤ 4 ∧ 128 ≤ (bs.getD (bs.length - 1) 0).toNat := by
  have hval : Utf8.valid c = true := by
    simp only [Lib.validRune, decide_eq_true_eq] at hv
    simp only [Utf8.valid, Bool.or_eq_true, Bool.and_eq_true, decide_eq_true_eq]
    omega
  have hle : c ≤ 1114111 := by
    simp only [Lib.validRune, decide_eq_true_eq] at hv
    omega
  unfold Utf8.encode
  simp only [hval, if_true]
  have h0 : ¬ c.toNat < 0x80 := by omega
  rw [if_neg h0]
  have hb : ∀ n : Nat, 128 ≤ (UInt8.ofNat (0x80 + n % 64)).toNat := fun n => by
    rw [UInt8.toNat_ofNat_of_lt' (show _ < 256 by omega)]; omega
  split
  · exact ⟨[_, _], rfl, by simp, by simp, hb _⟩
  · split
    · exact ⟨[_, _, _], rfl, by simp, by simp, hb _⟩
    · exact ⟨[_, _, _, _], rfl, by simp, by simp, hb _⟩
theorem ixI_none {l : List UInt8} {b : UInt8} (h : ∀ x ∈ l, x ≠ b) : ixI l (b.toNat : Int) = -1 := by
  rcases ixI_cases l b with ⟨h1, _⟩ | ⟨m, _, _, _, h3⟩
  · exact h1
  · exact absurd rfl (h b (List.mem_of_getElem? h3))
theorem IndexRune_holds : Holds k_IndexRune := con_run (xs := [k_IndexByte, k_ValidRune]) (hold1 IndexByte_holds (hold1 ValidRune_holds hold0)) fun aa hp r h => by
  split at h
  case h_2 => cases h
  rename_i s c
  obtain ⟨g, rfl⟩ := xo h
  obtain ⟨l, rfl⟩ := str_cases s
  have g : l = [42, 63, 91] := by simpa using g
  subst g
  refine Runs.by (IndexRune_e · _) ?_
  have err : Runs (cfg [k_IndexByte, k_ValidRune]) (IndexRune_q38 (mk [42, 63, 91]) 0) [.int .i64 (-1)] := by
    have d0 : Utf8.decode (mk [42, 63, 91]) 0 = (42, 1) := by rfl
    have d1 : Utf8.decode (mk [42, 63, 91]) 1 = (63, 1) := by rfl
    have d2 : Utf8.decode (mk [42, 63, 91]) 2 = (91, 1) := by rfl
    have s3 : Runs (cfg [k_IndexByte, k_ValidRune]) (IndexRune_q38 (mk [42, 63, 91]) 3) [.int .i64 (-1)] := Runs.by (IndexRune_p38 · _ _) .ret
    have s2 : Runs (cfg [k_IndexByte, k_ValidRune]) (IndexRune_q38 (mk [42, 63, 91]) 2) [.int .i64 (-1)] := by
      refine Runs.by (IndexRune_p38 · _ _) ?_
      rw [d2]
      exact .go s3
    have s1 : Runs (cfg [k_IndexByte, k_ValidRune]) (IndexRune_q38 (mk [42, 63, 91]) 1) [.int .i64 (-1)] := by
      refine Runs.by (IndexRune_p38 · _ _) ?_
      rw [d1]
      exact .go s2
    refine Runs.by (IndexRune_p38 · _ _) ?_
    rw [d0]
    exact .go s1
  have big : Lib.validRune c = true → 128 ≤ c → Runs (cfg [k_IndexByte, k_ValidRune]) (IndexRune_q5 (mk [42, 63, 91]) c (Utf8.encode c) (wrapI .i64 ((↑(ByteArray.size (Utf8.encode c)) : Int) - 1)) (wrapI .i64 ((↑(ByteArray.size (Utf8.encode c)) : Int) - 1)) 0) [.int .i64 (-1)] := fun hv hc => by
    obtain ⟨bs, e, h1, h2, h3⟩ := encode_big hv hc
    rw [e]
    refine Runs.by (IndexRune_p5 · _ _ _ _ _ _) ?_
    have hsz : (mk bs).size = bs.length := rfl
    have hs3 : (mk [42, 63, 91]).size = 3 := rfl
    have ei : (bs.length : Int) - 1 = ((bs.length - 1 : Nat) : Int) := by omega
    rw [hsz, w64 (by omega) (by omega), ei, hs3]
    by_cases hl : bs.length - 1 < 3
    · have hne : ∀ x ∈ ([42, 63, 91] : List UInt8), x ≠ bs.getD (bs.length - 1) 0 := by
        intro x hx hxe
        simp only [List.mem_cons, List.not_mem_nil, or_false] at hx
        rw [← hxe] at h3
        rcases hx with rfl | rfl | rfl <;> revert h3 <;> decide
      have hat : ∃ x ∈ ([42, 63, 91] : List UInt8), ([42, 63, 91] : List UInt8).getD (bs.length - 1) 0 = x := by
        have : bs.length - 1 = 1 ∨ bs.length - 1 = 2 := by omega
        rcases this with h | h <;> rw [h] <;> simp
      obtain ⟨x, hx1, hx2⟩ := hat
      have hbne : ((x.toNat : Int) != ((bs.getD (bs.length - 1) 0).toNat : Int)) = true := by
        rw [ev_ne_t]
        intro e
        exact hne x hx1 (UInt8.toNat_inj.1 (by omega))
      have e2 : ((bs.length - 1 : Nat) : Int) + 1 = (bs.length : Int) := by omega
      have hix : ixI (([42, 63, 91] : List UInt8).drop bs.length) ((bs.getD (bs.length - 1) 0).toNat : Int) = -1 := ixI_none fun y hy => hne y (List.mem_of_mem_drop hy)
      have hsd : (([42, 63, 91] : List UInt8).drop bs.length).length ≤ 1000000000000 := by simp; omega
      have ht3 : List.take 3 ([42, 63, 91] : List UInt8) = [42, 63, 91] := rfl
      simp (disch := omega) only [ev_lt_t, ev_le_t, Bool.and_self, cond_true, byI_mk, hx2, hbne, e2, w64, Int.toNat_natCast, ext_mk, ht3, size_mk, bl_mk, hix]
      simp (disch := first | omega | exact hsd) only [ev_blt, cond_true, ev_lt_t]
      exact .ret
    · simp (disch := omega) only [ev_lt_f, cond_false]
      exact .ret
  by_cases h0 : 0 ≤ c
  · by_cases h1 : c < 128
    · simp (disch := omega) only [ev_le_t, ev_lt_t, cond_true, w8, if_pos (And.intro h0 h1), bl_mk]
      exact .ret
    · simp (disch := omega) only [ev_le_t, ev_lt_f, cond_true, cond_false, if_neg (show ¬ (0 ≤ c ∧ c < 128) by omega)]
      by_cases h2 : c = 65533
      · simp (disch := omega) only [ev_eq_t, cond_true]
        exact .go err
      · simp (disch := omega) only [ev_eq_f, cond_false]
        cases hv : Lib.validRune c with
        | false => exact .ret
        | true => exact .go (big hv (by omega))
  · simp (disch := omega) only [ev_le_f, cond_false, if_neg (show ¬ (0 ≤ c ∧ c < 128) by omega), ev_eq_f]
    have : Lib.validRune c = false := by
      simp only [Lib.validRune, decide_eq_false_iff_not]; omega
    rw [this]
    exact .ret

/-! ### the search -/
theorem get_bang (l : List UInt8) (j : Nat) : (mk l).get! j = l.getD j 0 := by
  unfold ByteArray.get!
  show (⟨l⟩ : Array UInt8)[j]! = _
  rw [List.getD_eq_getElem?_getD, getElem!_def]
  simp only [List.getElem?_toArray]
  cases l[j]? <;> rfl
theorem decode_low {l : List UInt8} {i : Nat} (h : (l.getD i 0).toNat < 128) : Utf8.decode (mk l) i = ((l.getD i 0).toNat, 1) := by
  unfold Utf8.decode
  simp only [get_bang, Nat.add_zero]
  rw [if_pos h]
theorem decode_high {l : List UInt8} {i : Nat} (hi : i < l.length) (h : 128 ≤ (l.getD i 0).toNat) : ∃ c w, Utf8.decode (mk l) i = (c, w) ∧ 128 ≤ c ∧ 1 ≤ w ∧ i + w ≤ l.length ∧ ∀ k, k < w → 128 ≤ (l.getD (i + k) 0).toNat := by
  have one : ∃ c w, ((Utf8.runeError, 1) : Nat × Nat) = (c, w) ∧ 128 ≤ c ∧ 1 ≤ w ∧ i + w ≤ l.length ∧ ∀ k, k < w → 128 ≤ (l.getD (i + k) 0).toNat :=
    ⟨_, _, rfl, by decide, by decide, by omega, fun k hk => by
      have : k = 0 := by omega
      subst this; exact h⟩
  unfold Utf8.decode
  simp only [get_bang, Nat.add_zero]
  rw [if_neg (by omega)]
  have hsz : (mk l).size = l.length := rfl
  simp only [hsz]
  have cb : ∀ k, (l.getD (i + k) 0).toNat / 64 = 2 → 128 ≤ (l.getD (i + k) 0).toNat := fun k hk => by omega
  split
  · rename_i h1
    simp only [Bool.and_eq_true, beq_iff_eq, decide_eq_true_eq] at h1
    split
    · refine ⟨_, _, rfl, by assumption, by decide, by omega, fun k hk => ?_⟩
      rcases (by omega : k = 0 ∨ k = 1) with rfl | rfl
      · exact h
      · exact cb 1 h1.2.2
    · exact one
  · split
    · rename_i h1
      simp only [Bool.and_eq_true, beq_iff_eq, decide_eq_true_eq] at h1
      split
      · rename_i h2
        simp only [Bool.and_eq_true, decide_eq_true_eq] at h2
        refine ⟨_, _, rfl, by omega, by decide, by omega, fun k hk => ?_⟩
        rcases (by omega : k = 0 ∨ k = 1 ∨ k = 2) with rfl | rfl | rfl
        · exact h
        · exact cb 1 h1.1.2.2
        · exact cb 2 h1.2.2
      · exact one
    · split
      · rename_i h1
        simp only [Bool.and_eq_true, beq_iff_eq, decide_eq_true_eq] at h1
        split
        · rename_i h2
          simp only [Bool.and_eq_true, decide_eq_true_eq] at h2
          refine ⟨_, _, rfl, by omega, by decide, by omega, fun k hk => ?_⟩
          rcases (by omega : k = 0 ∨ k = 1 ∨ k = 2 ∨ k = 3) with rfl | rfl | rfl | rfl
          · exact h
          · exact cb 1 h1.1.1.2.2
          · exact cb 2 h1.1.2.2
          · exact cb 3 h1.2.2
        · exact one
      · exact one
def sh (n : Int) (i : Nat) : Int := if n < 0 then -1 else n + i
theorem indexAny_skip : ∀ (w : Nat) (l : List UInt8), (∀ b ∈ l.take w, spB b = false) → Lib.indexAny l [42, 63, 91] = sh (Lib.indexAny (l.drop w) [42, 63, 91]) w
  | 0, l, _ => by
    have := Lib.indexAny_ge [42, 63, 91] l
    simp only [List.drop_zero, sh]
    split <;> omega
  | w + 1, [], _ => rfl
  | w + 1, b :: l, h => by
    have hc : ([42, 63, 91] : List UInt8).contains b = spB b := by
      simp only [List.contains_cons, List.contains_nil, Bool.or_false, spB]
    have ih := indexAny_skip w l fun x hx => h x (by simp [hx])
    have := Lib.indexAny_ge [42, 63, 91] l
    conv => lhs; unfold Lib.indexAny
    rw [hc, h b (by simp), List.drop_succ_cons]
    rw [ih]
    simp only [sh, Bool.false_eq_true, if_false]
    by_cases hn : Lib.indexAny (l.drop w) [42, 63, 91] < 0
    · simp [hn]
    · have : ((Lib.indexAny (l.drop w) [42, 63, 91] + (w : Int)) == -1) = false := by simp; omega
      simp only [if_neg hn, this, Bool.false_eq_true, if_false]
      omega
theorem spB_high {b : UInt8} (h : 128 ≤ b.toNat) : spB b = false := by
  unfold spB
  have : ∀ c : UInt8, c.toNat < 128 → (b == c) = false := fun c hc => by
    have : b ≠ c := by rintro rfl; omega
    simpa using this
  rw [this 42 (by decide), this 63 (by decide), this 91 (by decide)]; rfl
theorem any_loop (l : List UInt8) (hl : l.length ≤ 8) : ∀ (m i : Nat), i ≤ l.length → l.length - i ≤ m → Runs (cfg [k_IndexRune, k_useSet, k_noSet]) (IndexAny_q18 (mk [42, 63, 91]) (mk l) i) [.int .i64 (sh (Lib.indexAny (l.drop i) [42, 63, 91]) i)]
  | m, i, hi, hm => by
    refine Runs.by (IndexAny_p18 · _ _ _) ?_
    have hsz : (mk l).size = l.length := rfl
    have heq : (bl (mk [42, 63, 91]) == [42, 63, 91]) = true := rfl
    rw [hsz, heq]
    by_cases h : i < l.length
    · obtain ⟨b, hd, hg, hc⟩ := getD_drop (l := l) (i := i) h
      simp only [decide_eq_true h, cond_true]
      have hcon : ([42, 63, 91] : List UInt8).contains b = spB b := by
        simp only [List.contains_cons, List.contains_nil, Bool.or_false, spB]
      by_cases hb : b.toNat < 128
      · rw [decode_low (by rw [hg]; exact hb), hg]
        rw [if_pos (And.intro (Int.natCast_nonneg _) (by omega))]
        rw [hd]
        cases hs : spB b with
        | true =>
          have h1 : ixI [42, 63, 91] (b.toNat : Int) ≥ 0 := by
            rcases ixI_cases [42, 63, 91] b with ⟨_, h2⟩ | ⟨m, _, h2, _⟩
            · exfalso
              rw [← hcon] at hs
              exact h2 b (by simpa using hs) rfl
            · omega
          rw [ev_le_t h1]
          simp only [cond_true]
          refine .ret' ?_
          unfold Lib.indexAny
          rw [hcon, hs]
          simp [sh]
        | false =>
          have h1 : ixI [42, 63, 91] (b.toNat : Int) = -1 := ixI_none fun x hx e => by
            rw [← hcon] at hs
            subst e
            have : ([42, 63, 91] : List UInt8).contains x = true := by simpa using hx
            rw [this] at hs; cases hs
          rw [h1]
          have e0 : leI 0 (-1) = false := rfl
          simp only [e0, cond_false]
          have ih := any_loop l hl (m - 1) (i + 1) (by omega) (by omega)
          have hsk := indexAny_skip 1 (b :: l.drop (i + 1)) (by simp [hs])
          rw [hsk]
          simp only [List.drop_succ_cons, List.drop_zero]
          have e3 : sh (sh (Lib.indexAny (l.drop (i + 1)) [42, 63, 91]) 1) i = sh (Lib.indexAny (l.drop (i + 1)) [42, 63, 91]) (i + 1) := by
            unfold sh
            by_cases hn : Lib.indexAny (l.drop (i + 1)) [42, 63, 91] < 0
            · simp [hn]
            · have : ¬ (Lib.indexAny (l.drop (i + 1)) [42, 63, 91] + ((1 : Nat) : Int)) < 0 := by omega
              rw [if_neg hn, if_neg this, if_neg hn]; omega
          rw [e3]
          exact .go ih
      · obtain ⟨c, w, h1, h2, h3, h4, h5⟩ := decode_high (l := l) h (by rw [hg]; omega)
        rw [h1]
        have e0 : leI 0 (-1) = false := rfl
        rw [if_neg (by dsimp only; omega)]
        simp only [e0, cond_false]
        have ih := any_loop l hl (m - 1) (i + w) (by omega) (by omega)
        have hsk := indexAny_skip w (l.drop i) (by
          intro x hx
          obtain ⟨j, hj, hje⟩ := List.mem_iff_getElem.1 hx
          have hjw : j < w := by simp at hj; omega
          have := h5 j hjw
          refine spB_high ?_
          have e : x = l.getD (i + j) 0 := by
            rw [← hje]
            simp [List.getD, show i + j < l.length by omega]
          rw [e]; exact this)
        rw [hsk, List.drop_drop]
        have e3 : sh (sh (Lib.indexAny (l.drop (i + w)) [42, 63, 91]) w) i = sh (Lib.indexAny (l.drop (i + w)) [42, 63, 91]) (i + w) := by
          unfold sh
          by_cases hn : Lib.indexAny (l.drop (i + w)) [42, 63, 91] < 0
          · simp [hn]
          · have : ¬ (Lib.indexAny (l.drop (i + w)) [42, 63, 91] + ((w : Nat) : Int)) < 0 := by omega
            rw [if_neg hn, if_neg this, if_neg hn]; omega
        rw [e3]
        exact .go ih
    · simp only [decide_eq_false h, cond_false]
      rw [List.drop_eq_nil_of_le (by omega)]
      exact .ret' rfl
  termination_by m i => l.length - i
end Go.Ab
namespace Go.Ab

/-! ### positions -/
theorem runF_cons (e : El) (l : List El) (p : List UInt8) (f : Nat → Bool) : runF (e :: l) p f = runF l p (stepF e p f) := rfl
theorem runF_app (l m : List El) (p : List UInt8) (f : Nat → Bool) : runF (l ++ m) p f = runF m p (runF l p f) := by simp [runF]
theorem starF_mono {ok ok' : UInt8 → Bool} {p : List UInt8} {f g : Nat → Bool} (ho : ∀ b, ok b = true → ok' b = true) (h : ∀ i, f i = true → g i = true) : ∀ j, starF ok p f j = true → starF ok' p g j = true
  | 0, hs => h 0 hs
  | j + 1, hs => by
    simp only [starF, Bool.or_eq_true, Bool.and_eq_true] at hs ⊢
    rcases hs with hs | hs
    · exact .inl (h _ hs)
    · exact .inr ⟨starF_mono ho h j hs.1, ho _ hs.2⟩
theorem oneF_mono {st : UInt8 → Bool} {p : List UInt8} {f g : Nat → Bool} (h : ∀ i, f i = true → g i = true) : ∀ j, oneF st p f j = true → oneF st p g j = true
  | 0, hs => by cases hs
  | j + 1, hs => by
    simp only [oneF, Bool.and_eq_true] at hs ⊢
    exact ⟨h _ hs.1, hs.2⟩
theorem stepF_mono {e : El} {p : List UInt8} {f g : Nat → Bool} (h : ∀ i, f i = true → g i = true) : ∀ j, stepF e p f j = true → stepF e p g j = true := by
  cases e with
  | any1 => exact starF_mono (fun _ h => h) h
  | any2 => exact starF_mono (fun _ h => h) h
  | _ => exact oneF_mono h
theorem runF_mono {p : List UInt8} : ∀ (l : List El) {f g : Nat → Bool}, (∀ i, f i = true → g i = true) → ∀ j, runF l p f j = true → runF l p g j = true
  | [], _, _, h, j, hs => h j hs
  | e :: l, f, g, h, j, hs => runF_mono l (stepF_mono h) j hs
/-- Positions only go forward. -/
theorem starF_from {ok : UInt8 → Bool} {p : List UInt8} {f : Nat → Bool} : ∀ j, starF ok p f j = true → ∃ i, i ≤ j ∧ f i = true
  | 0, hs => ⟨0, Nat.le_refl _, hs⟩
  | j + 1, hs => by
    simp only [starF, Bool.or_eq_true, Bool.and_eq_true] at hs
    rcases hs with hs | hs
    · exact ⟨_, Nat.le_refl _, hs⟩
    · obtain ⟨i, h1, h2⟩ := starF_from j hs.1
      exact ⟨i, by omega, h2⟩
theorem oneF_from {st : UInt8 → Bool} {p : List UInt8} {f : Nat → Bool} : ∀ j, oneF st p f j = true → ∃ i, i ≤ j ∧ f i = true
  | 0, hs => by cases hs
  | j + 1, hs => by
    simp only [oneF, Bool.and_eq_true] at hs
    exact ⟨j, by omega, hs.1⟩
theorem stepF_from {e : El} {p : List UInt8} {f : Nat → Bool} : ∀ j, stepF e p f j = true → ∃ i, i ≤ j ∧ f i = true := by
  cases e with
  | any1 => exact starF_from
  | any2 => exact starF_from
  | _ => exact oneF_from
theorem runF_from {p : List UInt8} : ∀ (l : List El) {f : Nat → Bool} {j : Nat}, runF l p f j = true → ∃ i, i ≤ j ∧ f i = true
  | [], _, j, hs => ⟨j, Nat.le_refl _, hs⟩
  | e :: l, f, j, hs => by
    obtain ⟨i, h1, h2⟩ := runF_from l hs
    obtain ⟨k, h3, h4⟩ := stepF_from i h2
    exact ⟨k, by omega, h4⟩

/-! ### a text in two parts -/
theorem getD_app_left {p q : List UInt8} {i : Nat} (h : i < p.length) : (p ++ q).getD i 0 = p.getD i 0 := by
  simp [List.getD, List.getElem?_append_left h]
theorem starF_left {ok : UInt8 → Bool} {p q : List UInt8} {f : Nat → Bool} : ∀ j, j ≤ p.length → starF ok (p ++ q) f j = starF ok p f j
  | 0, _ => rfl
  | j + 1, h => by
    have ih := starF_left (ok := ok) (p := p) (q := q) (f := f) j (by omega)
    simp only [starF, ih, getD_app_left (q := q) (show j < p.length by omega)]
theorem oneF_left {st : UInt8 → Bool} {p q : List UInt8} {f : Nat → Bool} : ∀ j, j ≤ p.length → oneF st (p ++ q) f j = oneF st p f j
  | 0, _ => rfl
  | j + 1, h => by
    simp only [oneF, getD_app_left (show j < p.length by omega), List.length_append]
    rw [decide_eq_true (show j < p.length + q.length by omega), decide_eq_true (show j < p.length by omega)]
theorem stepF_left {e : El} {p q : List UInt8} {f : Nat → Bool} : ∀ j, j ≤ p.length → stepF e (p ++ q) f j = stepF e p f j := by
  cases e with
  | any1 => exact starF_left
  | any2 => exact starF_left
  | _ => exact oneF_left
theorem runF_left {p q : List UInt8} : ∀ (l : List El) {f g : Nat → Bool}, (∀ j, j ≤ p.length → f j = g j) → ∀ j, j ≤ p.length → runF l (p ++ q) f j = runF l p g j
  | [], _, _, h, j, hj => h j hj
  | e :: l, f, g, h, j, hj => by
    rw [runF_cons, runF_cons]
    refine runF_left l (fun i hi => ?_) j hj
    rw [stepF_left i hi]
    exact stepF_congr fun t ht => h t (by omega)
theorem starF_right {ok : UInt8 → Bool} {p q : List UInt8} {f g : Nat → Bool} (h : ∀ i, g i = true → f (p.length + i) = true) : ∀ j, starF ok q g j = true → starF ok (p ++ q) f (p.length + j) = true
  | 0, hs => by
    have := h 0 hs
    rw [Nat.add_zero] at this ⊢
    cases hp : p.length with
    | zero => rw [hp] at this; exact this
    | succ n => rw [hp] at this; simp only [starF, this, Bool.true_or]
  | j + 1, hs => by
    simp only [starF, Bool.or_eq_true, Bool.and_eq_true] at hs
    show starF ok (p ++ q) f (p.length + j + 1) = true
    simp only [starF, Bool.or_eq_true, Bool.and_eq_true, getD_pre]
    rcases hs with hs | hs
    · exact .inl (h _ hs)
    · exact .inr ⟨starF_right h j hs.1, hs.2⟩
theorem oneF_right {st : UInt8 → Bool} {p q : List UInt8} {f g : Nat → Bool} (h : ∀ i, g i = true → f (p.length + i) = true) : ∀ j, oneF st q g j = true → oneF st (p ++ q) f (p.length + j) = true
  | 0, hs => by cases hs
  | j + 1, hs => by
    simp only [oneF, Bool.and_eq_true, decide_eq_true_eq] at hs
    show oneF st (p ++ q) f (p.length + j + 1) = true
    simp only [oneF, Bool.and_eq_true, getD_pre, decide_eq_true_eq, List.length_append]
    exact ⟨h _ hs.1, by omega, hs.2.2⟩
theorem runF_right {p q : List UInt8} : ∀ (l : List El) {f g : Nat → Bool}, (∀ i, g i = true → f (p.length + i) = true) → ∀ j, runF l q g j = true → runF l (p ++ q) f (p.length + j) = true
  | [], _, _, h, j, hs => h j hs
  | e :: l, f, g, h, j, hs => by
    rw [runF_cons] at hs ⊢
    refine runF_right l (fun i hi => ?_) j hs
    cases e with
    | any1 => exact starF_right h i hi
    | any2 => exact starF_right h i hi
    | _ => exact oneF_right h i hi
theorem runF_join {p q : List UInt8} {l m : List El} (h1 : runF l p (fun i => i == 0) p.length = true) (h2 : runF m q (fun i => i == 0) q.length = true) :
    runF (l ++ m) (p ++ q) (fun i => i == 0) (p ++ q).length = true := by
  rw [runF_app, List.length_append]
  refine runF_right m (fun i hi => ?_) _ h2
  have : i = 0 := by simpa using hi
  subst this
  rw [Nat.add_zero, runF_left l (fun _ _ => rfl) _ (Nat.le_refl _)]
  exact h1

/-! ### two patterns one after the other -/
theorem any2_covers {p : List UInt8} {f : Nat → Bool} : ∀ j, stepF .any1 p (stepF .any1 p f) j = true → stepF .any2 p f j = true
  | 0, h => h
  | j + 1, h => by
    have lift : ∀ i, stepF .any1 p f i = true → stepF .any2 p f i = true := starF_mono (fun _ _ => rfl) fun _ h => h
    have h' : (stepF .any1 p f (j + 1) || (stepF .any1 p (stepF .any1 p f) j && (p.getD j 0 != 47))) = true := h
    simp only [Bool.or_eq_true, Bool.and_eq_true] at h'
    rcases h' with h' | h'
    · exact lift _ h'
    · have := any2_covers j h'.1
      show (f (j + 1) || (stepF .any2 p f j && true)) = true
      rw [this]; simp
theorem ixI_app {l m : List UInt8} {n : Nat} (h : ixI l 93 = (n : Int)) : ixI (l ++ m) 93 = (n : Int) := by
  rcases ixI_cases l 93 with ⟨h1, _⟩ | ⟨k, h0, h1, h2, h3⟩
  · have h1 : ixI l 93 = -1 := h1; omega
  · have h1 : ixI l 93 = (k : Int) := h1
    obtain rfl : n = k := by omega
    have h3' : (l ++ m)[n]? = some 93 := by rw [List.getElem?_append_left h0]; exact h3
    have h2' : ∀ b ∈ (l ++ m).take n, b ≠ 93 := by rw [List.take_append_of_le_length (by omega)]; exact h2
    rcases ixI_cases (l ++ m) 93 with ⟨k1, k2⟩ | ⟨k, k0, k1, k2, k3⟩
    · exact absurd rfl (k2 93 (List.mem_of_getElem? h3'))
    · have k1 : ixI (l ++ m) 93 = (k : Int) := k1
      rcases Nat.lt_trichotomy k n with h | h | h
      · exact absurd rfl (h2' 93 (List.mem_of_getElem? (i := k) (by rw [List.getElem?_take, if_pos h]; exact k3)))
      · rw [k1, h]
      · exact absurd rfl (k2 93 (List.mem_of_getElem? (i := n) (by rw [List.getElem?_take, if_pos h]; exact h3')))
/-- An element stays, unless asterisks run together. -/
theorem elem1_app {g m : List UInt8} {e : El} {w : Nat} (h : elem1 true g = some (e, w)) :
    elem1 true (g ++ m) = some (e, w) ∨ (g = [42] ∧ m.head? = some 42) ∨ (g = [42, 42] ∧ m.head? = some 42 ∧ elem1 true (g ++ m) = none) := by
  have v42 : visB 42 = true := by decide
  cases g with
  | nil => simp [elem1] at h
  | cons b r =>
    have hv : visB b = true := by
      cases hv : visB b with
      | true => rfl
      | false => simp [elem1, hv] at h
    by_cases c93 : b = 93
    · subst c93; simp [elem1, hv] at h
    by_cases c42 : b = 42
    · subst c42
      cases r with
      | nil =>
        by_cases hm : m.head? = some 42
        · exact .inr (.inl ⟨rfl, hm⟩)
        · left
          simp [elem1, v42] at h ⊢
          simp [hm, h]
      | cons x r =>
        by_cases d1 : x = 42
        · subst d1
          cases r with
          | nil =>
            by_cases hm : m.head? = some 42
            · right; right
              exact ⟨rfl, hm, by simp [elem1, v42, hm]⟩
            · left
              simp [elem1, v42] at h ⊢
              simp [hm, h]
          | cons y r =>
            left
            simp [elem1, v42] at h ⊢
            exact h
        · left
          simp [elem1, v42, d1] at h ⊢
          exact h
    by_cases c63 : b = 63
    · subst c63; left; simp [elem1, hv] at h ⊢; exact h
    by_cases c91 : b = 91
    · subst c91
      left
      have hx := ixI_bound r
      by_cases hi : ixI r 93 < 0
      · simp only [elem1, hv] at h; simp [hi] at h
      · obtain ⟨n, hn⟩ : ∃ n : Nat, ixI r 93 = (n : Int) := ⟨(ixI r 93).toNat, by omega⟩
        have hn' : ¬ (n : Int) < 0 := by omega
        simp only [elem1, List.cons_append, hv, hn, ixI_app (m := m) hn, if_neg hn', Int.toNat_natCast] at h ⊢
        rw [List.take_append_of_le_length (by omega)]
        exact h
    · left
      simp [elem1, hv, c93, c42, c63, c91] at h ⊢
      exact h
theorem parse_join : ∀ (k : Nat) (g m : List UInt8) (l0 l1 L : List El), g.length ≤ k → parseE true g = some l0 → parseE true m = some l1 → parseE true (g ++ m) = some L →
    ∀ p f j, runF (l0 ++ l1) p f j = true → runF L p f j = true
  | k, [], m, l0, l1, L, hk, h0, h1, hL, p, f, j, hr => by
    rw [parseE_nil] at h0; cases h0
    rw [List.nil_append, h1] at hL; cases hL
    exact hr
  | 0, _ :: _, _, _, _, _, hk, _, _, _, _, _, _, _ => by simp at hk
  | k + 1, b :: r, m, l0, l1, L, hk, h0, h1, hL, p, f, j, hr => by
    rw [parseE_cons] at h0
    rw [List.cons_append, parseE_cons, ← List.cons_append] at hL
    cases he : elem1 true (b :: r) with
    | none => rw [he] at h0; cases h0
    | some q =>
      obtain ⟨e, w⟩ := q
      rw [he] at h0
      simp only [Option.map_eq_some_iff] at h0
      obtain ⟨l0', hl0, rfl⟩ := h0
      obtain ⟨hw1, hw2⟩ := elem1_width he
      rcases elem1_app (m := m) he with h | ⟨h, hm⟩ | ⟨h, hm, hn⟩
      · rw [h] at hL
        simp only [Option.map_eq_some_iff] at hL
        obtain ⟨L', hL', rfl⟩ := hL
        rw [List.drop_append_of_le_length hw2] at hL'
        rw [List.cons_append, runF_cons] at hr
        rw [runF_cons]
        exact parse_join k _ m l0' l1 L' (by simp only [List.length_drop, List.length_cons] at *; omega) hl0 h1 hL' p _ j hr
      · -- an asterisk and an asterisk
        cases h
        cases m with
        | nil => simp at hm
        | cons c m =>
          have : c = 42 := by simpa using hm
          subst this
          have v42 : visB 42 = true := by decide
          have he' : e = .any1 ∧ w = 1 := by simp [elem1, v42] at he; exact ⟨he.1.symm, he.2.symm⟩
          obtain ⟨rfl, rfl⟩ := he'
          rw [show ([42] : List UInt8).drop 1 = [] from rfl, parseE_nil] at hl0
          cases hl0
          by_cases d : m.head? = some 42
          · have : elem1 true ([42] ++ 42 :: m) = none := by simp [elem1, v42, d]
            rw [this] at hL; cases hL
          · have e2 : elem1 true ([42] ++ 42 :: m) = some (.any2, 2) := by simp [elem1, v42, d]
            have e1 : elem1 true (42 :: m) = some (.any1, 1) := by simp [elem1, v42, d]
            rw [e2] at hL
            rw [parseE_cons, e1] at h1
            simp only [Option.map_eq_some_iff] at hL h1
            obtain ⟨L', hL', rfl⟩ := hL
            obtain ⟨l1', hl1', rfl⟩ := h1
            have hLl : L' = l1' := by
              have a1 : ([42] ++ 42 :: m : List UInt8).drop 2 = m := rfl
              have a2 : (42 :: m : List UInt8).drop 1 = m := rfl
              rw [a1] at hL'; rw [a2, hL'] at hl1'
              exact Option.some.inj hl1'
            subst hLl
            rw [runF_cons]
            rw [List.cons_append, List.nil_append, runF_cons, runF_cons] at hr
            exact runF_mono L' any2_covers j hr
      · rw [hn] at hL; cases hL
theorem rightE_parse {g : List UInt8} (h : (rightE g == 0) = true) : ∃ l, parseE true g = some l := by
  unfold rightE at h
  cases hq : parseE true g with
  | some l => exact ⟨l, rfl⟩
  | none => rw [hq] at h; revert h; simp; split <;> decide
theorem glob_joins {g0 g1 p0 p1 : List UInt8} (h0 : matchE g0 p0 = true) (h1 : matchE g1 p1 = true) (hr : (rightE (g0 ++ g1) == 0) = true) : matchE (g0 ++ g1) (p0 ++ p1) = true := by
  unfold matchE at *
  rw [Bool.and_eq_true] at h0 h1
  obtain ⟨l0, e0⟩ := rightE_parse h0.1
  obtain ⟨l1, e1⟩ := rightE_parse h1.1
  obtain ⟨L, eL⟩ := rightE_parse hr
  rw [e0] at h0
  rw [e1] at h1
  rw [eL, hr, Bool.true_and]
  exact parse_join _ g0 g1 l0 l1 L (Nat.le_refl _) e0 e1 eL _ _ _ (runF_join h0.2 h1.2)

/-! ### the beginning -/
theorem prefix_elems : ∀ (k : Nat) (g : List UInt8) (l : List El), g.length ≤ k → parseE true g = some l → ∃ rest, l = (prefixB g).map .byte ++ rest ∧ (prefixB g = g → rest = [])
  | _, [], l, _, h => by rw [parseE_nil] at h; cases h; exact ⟨[], rfl, fun _ => rfl⟩
  | 0, _ :: _, _, hk, _ => by simp at hk
  | k + 1, b :: r, l, hk, h => by
    cases hs : spB b with
    | true =>
      refine ⟨l, by simp [prefixB, hs], fun h => ?_⟩
      simp [prefixB, hs] at h
    | false =>
      rw [parseE_cons] at h
      cases he : elem1 true (b :: r) with
      | none => rw [he] at h; cases h
      | some q =>
        obtain ⟨e, w⟩ := q
        rw [he] at h
        simp only [Option.map_eq_some_iff] at h
        obtain ⟨l', hl', rfl⟩ := h
        simp only [spB, Bool.or_eq_false_iff, beq_eq_false_iff_ne, ne_eq] at hs
        have hew : e = .byte b ∧ w = 1 := by
          unfold elem1 at he
          simp only [hs.1, hs.2.1, hs.2.2, if_false] at he
          split at he
          · cases he
          · split at he
            · cases he
            · simp only [Option.some.injEq, Prod.mk.injEq] at he; exact ⟨he.1.symm, he.2.symm⟩
        obtain ⟨rfl, rfl⟩ := hew
        obtain ⟨rest, h1, h2⟩ := prefix_elems k r l' (by simpa using hk) hl'
        have hsp : spB b = false := by simp [spB, hs]
        refine ⟨rest, by simp [prefixB, hsp, h1], fun hh => h2 ?_⟩
        simpa [prefixB, hsp] using hh
theorem runF_none (l : List El) (p : List UInt8) (j : Nat) : runF l p (fun _ => false) j = false := by
  cases h : runF l p (fun _ => false) j with
  | false => rfl
  | true => obtain ⟨_, _, h2⟩ := runF_from l h; cases h2
theorem runF_bytes (p : List UInt8) : ∀ (x : List UInt8) (k j : Nat), runF (x.map .byte) p (fun i => i == k) j = (j == k + x.length && (p.drop k).take x.length == x)
  | [], k, j => by simp [runF]
  | c :: x, k, j => by
    rw [List.map_cons, runF_cons]
    by_cases hk : k < p.length
    · obtain ⟨b, hd, hg, _⟩ := getD_drop (l := p) (i := k) hk
      by_cases hb : b = c
      · subst hb
        have : stepF (.byte b) p (fun i => i == k) = fun i => i == k + 1 := by
          funext i
          cases i with
          | zero => rfl
          | succ i =>
            show ((i == k) && (decide (i < p.length) && (p.getD i 0 == b))) = (i + 1 == k + 1)
            by_cases e : i = k
            · subst e; rw [hg]; simp [hk]
            · simp [e]
        rw [this, runF_bytes p x (k + 1) j, hd, List.length_cons, List.take_succ_cons]
        rw [show k + 1 + x.length = k + (x.length + 1) by omega]
        congr 1
        rw [Bool.eq_iff_iff]; simp
      · have : stepF (.byte c) p (fun i => i == k) = fun _ => false := by
          funext i
          cases i with
          | zero => rfl
          | succ i =>
            show ((i == k) && (decide (i < p.length) && (p.getD i 0 == c))) = false
            by_cases e : i = k
            · subst e; rw [hg]; simp [hb]
            · simp [e]
        rw [this, runF_none, hd, List.length_cons, List.take_succ_cons]
        symm
        simp [hb]
    · have : stepF (.byte c) p (fun i => i == k) = fun _ => false := by
        funext i
        cases i with
        | zero => rfl
        | succ i =>
          show ((i == k) && (decide (i < p.length) && (p.getD i 0 == c))) = false
          by_cases e : i = k
          · subst e; simp [hk]
          · simp [e]
      rw [this, runF_none, List.drop_eq_nil_of_le (by omega)]
      symm
      simp
theorem prefixB_pre (g : List UInt8) : prefixB g <+: g := List.takeWhile_prefix _
theorem glob_prefix {g p : List UInt8} (h : matchE g p = true) : prefixB g <+: p := by
  unfold matchE at h
  rw [Bool.and_eq_true] at h
  obtain ⟨l, e⟩ := rightE_parse h.1
  rw [e] at h
  obtain ⟨rest, rfl, _⟩ := prefix_elems _ g l (Nat.le_refl _) e
  have h2 := h.2
  rw [Option.getD_some, runF_app] at h2
  obtain ⟨i, hi, hf⟩ := runF_from rest h2
  rw [runF_bytes] at hf
  simp only [Bool.and_eq_true, beq_iff_eq, List.drop_zero] at hf
  rw [List.prefix_iff_eq_take]
  exact hf.2.symm
theorem glob_self {g p : List UInt8} (hg : prefixB g = g) (hr : (rightE g == 0) = true) : matchE g p = (g == p) := by
  unfold matchE
  obtain ⟨l, e⟩ := rightE_parse hr
  obtain ⟨rest, rfl, h2⟩ := prefix_elems _ g l (Nat.le_refl _) e
  rw [h2 hg, hg, List.append_nil] at e
  rw [e, hr, Bool.true_and, Option.getD_some, runF_bytes]
  rw [Bool.eq_iff_iff]
  simp only [Nat.zero_add, List.drop_zero, Bool.and_eq_true, beq_iff_eq]
  constructor
  · rintro ⟨h1, h2⟩
    rw [← h2, ← h1, List.take_length]
  · rintro rfl
    exact ⟨rfl, List.take_length⟩

/-! ### asterisks alone -/
theorem starF_init (ok : UInt8 → Bool) (p : List UInt8) : ∀ j, j ≤ p.length → starF ok p (fun i => i == 0) j = (p.take j).all ok
  | 0, _ => rfl
  | j + 1, h => by
    obtain ⟨b, _, hg, hc⟩ := getD_drop (l := p) (i := j) (by omega)
    rw [List.take_add_one, hc]
    simp only [starF, starF_init ok p j (by omega), hg]
    simp
theorem glob_all2 (p : List UInt8) : matchE [42, 42] p = true := by
  have h1 : (rightE [42, 42] == 0) = true := by decide
  have h2 : (parseE true [42, 42]).getD [] = [.any2] := rfl
  unfold matchE
  rw [h1, h2, Bool.true_and]
  show starF (fun _ => true) p (fun i => i == 0) p.length = true
  rw [starF_init _ _ _ (Nat.le_refl _)]
  simp
theorem glob_all1 (p : List UInt8) : matchE [42] p = !hasB 47 p := by
  have h1 : (rightE [42] == 0) = true := by decide
  have h2 : (parseE true [42]).getD [] = [.any1] := rfl
  unfold matchE
  rw [h1, h2, Bool.true_and]
  show starF (fun b => b != 47) p (fun i => i == 0) p.length = _
  rw [starF_init _ _ _ (Nat.le_refl _), List.take_length, hasB]
  rw [Bool.eq_iff_iff]
  simp
end Go.Ab
namespace Go.Ab
open Go.Proofs
/-! codesearch/codesearchlaw02.alive -/
theorem alive_e (G : Req → R) : runB (cfg [k_ValidPath, k_Base, k_Dir, k_Ext, k_Match, k_Right, k_Prefix]) G (.enter 10 [] []) =
  (some [(.bool (true))]) := by kernel_rfl

/-! codesearch/codesearchlaw02.GlobPaths -/
theorem GlobPaths_e (G : Req → R) (p0 : ByteArray) (dir1 : ByteArray) : runB (cfg [k_alive, k_short, k_ValidPath, k_rValidPath, k_Base, k_rBase, k_Dir, k_rDir, k_Ext, k_rExt, k_Under, k_rUnder]) G (.enter 8 [(.lf (.str (p0))), (.lf (.str (dir1)))] []) =
  (cond (!leI (↑(ByteArray.size p0) : Int) 200)
   (some [(.bool (true))])
   (cond (!leI (↑(ByteArray.size dir1) : Int) 200)
    (some [(.bool (true))])
    (cond (Nat.ble (ByteArray.size p0) 1000000000000)
     (cond (Nat.ble (ByteArray.size p0) 1000000000000)
      (cond (validB (bl p0) == validB (bl p0))
       (cond (Nat.ble (ByteArray.size p0) 1000000000000)
        (cond (Nat.ble (ByteArray.size p0) 1000000000000)
         (cond (bl (mk (baseB (bl p0))) == bl (mk (baseB (bl p0))))
          (cond (Nat.ble (ByteArray.size p0) 1000000000000)
           (cond (Nat.ble (ByteArray.size p0) 1000000000000)
            (cond (bl (mk (dirB (bl p0))) == bl (mk (dirB (bl p0))))
             (cond (Nat.ble (ByteArray.size p0) 1000000000000)
              (cond (Nat.ble (ByteArray.size p0) 1000000000000)
               (cond (bl (mk (extB (bl p0))) == bl (mk (extB (bl p0))))
                (cond (Nat.ble (ByteArray.size p0) 1000000000 && Nat.ble (ByteArray.size dir1) 1000000000)
                 (cond (Nat.ble (ByteArray.size p0) 1000000000000 && Nat.ble (ByteArray.size dir1) 1000000000000)
                  (some [(.bool (underB (bl p0) (bl dir1) == underB (bl p0) (bl dir1)))])
                  none)
                 none)
                (some [(.bool (false))]))
               none)
              none)
             (some [(.bool (false))]))
            none)
           none)
          (some [(.bool (false))]))
         none)
        none)
       (some [(.bool (false))]))
      none)
     none))) := by kernel_rfl

/-! codesearch/codesearchlaw02.GlobChecks -/
theorem GlobChecks_e (G : Req → R) (g0 : ByteArray) : runB (cfg [k_alive, k_short, k_Right, k_rRight, k_Prefix, k_rPrefix]) G (.enter 3 [(.lf (.str (g0)))] []) =
  (cond (!leI (↑(ByteArray.size g0) : Int) 200)
   (some [(.bool (true))])
   (cond (Nat.ble (ByteArray.size g0) 1000000000000)
    (cond (Nat.ble (ByteArray.size g0) 1000000000000)
     (cond (rightE (bl g0) == rightE (bl g0))
      (cond (Nat.ble (ByteArray.size g0) 1000000)
       (cond (Nat.ble (ByteArray.size g0) 1000000000000)
        (some [(.bool (bl (mk (prefixB (bl g0))) == bl (mk (prefixB (bl g0)))))])
        none)
       none)
      (some [(.bool (false))]))
     none)
    none)) := by kernel_rfl

/-! codesearch/codesearchlaw02.GlobMatches -/
theorem GlobMatches_e (G : Req → R) (g0 : ByteArray) (p1 : ByteArray) : runB (cfg [k_alive, k_short, k_Match, k_rMatch]) G (.enter 4 [(.lf (.str (g0))), (.lf (.str (p1)))] []) =
  (cond (!leI (↑(ByteArray.size g0) : Int) 200)
   (some [(.bool (true))])
   (cond (!leI (↑(ByteArray.size p1) : Int) 200)
    (some [(.bool (true))])
    (cond (Nat.ble (ByteArray.size g0) 1000000 && Nat.ble (ByteArray.size p1) 1000000)
     (cond (Nat.ble (ByteArray.size g0) 1000000 && Nat.ble (ByteArray.size p1) 1000000)
      (some [(.bool (matchE (bl g0) (bl p1) == matchE (bl g0) (bl p1)))])
      none)
     none))) := by kernel_rfl

/-! codesearch/codesearchlaw02.GlobPrefix -/
theorem GlobPrefix_e (G : Req → R) (g0 : ByteArray) (p1 : ByteArray) : runB (cfg [k_alive, k_short, k_Match, k_Prefix, k_Right]) G (.enter 5 [(.lf (.str (g0))), (.lf (.str (p1)))] []) =
  (cond (!leI (↑(ByteArray.size g0) : Int) 200)
   (some [(.bool (true))])
   (cond (!leI (↑(ByteArray.size p1) : Int) 200)
    (some [(.bool (true))])
    (cond (Nat.ble (ByteArray.size g0) 1000000)
     (cond (Nat.ble (ByteArray.size g0) 1000000 && Nat.ble (ByteArray.size p1) 1000000)
      (cond (matchE (bl g0) (bl p1))
       (cond (ltI (↑(ByteArray.size p1) : Int) (↑(ByteArray.size (mk (prefixB (bl g0)))) : Int))
        (some [(.bool (false))])
        (cond (leI 0 (↑(ByteArray.size (mk (prefixB (bl g0)))) : Int) && leI (↑(ByteArray.size (mk (prefixB (bl g0)))) : Int) (↑(ByteArray.size p1) : Int))
         (cond (!bl (ByteArray.extract p1 0 (Int.toNat (↑(ByteArray.size (mk (prefixB (bl g0)))) : Int))) == bl (mk (prefixB (bl g0))))
          (some [(.bool (false))])
          (cond (bl (mk (prefixB (bl g0))) == bl g0)
           (cond (Nat.ble (ByteArray.size g0) 1000000000000)
            (cond (rightE (bl g0) == 0)
             (cond (Nat.ble (ByteArray.size g0) 1000000 && Nat.ble (ByteArray.size g0) 1000000)
              (cond (matchE (bl g0) (bl g0))
               (cond (Nat.ble (ByteArray.size g0) 1000000 && Nat.ble (ByteArray.size p1) 1000000)
                (some [(.bool (matchE (bl g0) (bl p1) == (bl g0 == bl p1)))])
                none)
               (some [(.bool (false))]))
              none)
             (cond (leI (↑(ByteArray.size (mk (prefixB (bl g0)))) : Int) (↑(ByteArray.size g0) : Int))
              (cond (leI 0 (↑(ByteArray.size (mk (prefixB (bl g0)))) : Int) && leI (↑(ByteArray.size (mk (prefixB (bl g0)))) : Int) (↑(ByteArray.size g0) : Int))
               (some [(.bool (bl (ByteArray.extract g0 0 (Int.toNat (↑(ByteArray.size (mk (prefixB (bl g0)))) : Int))) == bl (mk (prefixB (bl g0)))))])
               none)
              (some [(.bool (false))])))
            none)
           (cond (leI (↑(ByteArray.size (mk (prefixB (bl g0)))) : Int) (↑(ByteArray.size g0) : Int))
            (cond (leI 0 (↑(ByteArray.size (mk (prefixB (bl g0)))) : Int) && leI (↑(ByteArray.size (mk (prefixB (bl g0)))) : Int) (↑(ByteArray.size g0) : Int))
             (some [(.bool (bl (ByteArray.extract g0 0 (Int.toNat (↑(ByteArray.size (mk (prefixB (bl g0)))) : Int))) == bl (mk (prefixB (bl g0)))))])
             none)
            (some [(.bool (false))]))))
         none))
       (cond (bl (mk (prefixB (bl g0))) == bl g0)
        (cond (Nat.ble (ByteArray.size g0) 1000000000000)
         (cond (rightE (bl g0) == 0)
          (cond (Nat.ble (ByteArray.size g0) 1000000 && Nat.ble (ByteArray.size g0) 1000000)
           (cond (matchE (bl g0) (bl g0))
            (cond (Nat.ble (ByteArray.size g0) 1000000 && Nat.ble (ByteArray.size p1) 1000000)
             (some [(.bool (matchE (bl g0) (bl p1) == (bl g0 == bl p1)))])
             none)
            (some [(.bool (false))]))
           none)
          (cond (leI (↑(ByteArray.size (mk (prefixB (bl g0)))) : Int) (↑(ByteArray.size g0) : Int))
           (cond (leI 0 (↑(ByteArray.size (mk (prefixB (bl g0)))) : Int) && leI (↑(ByteArray.size (mk (prefixB (bl g0)))) : Int) (↑(ByteArray.size g0) : Int))
            (some [(.bool (bl (ByteArray.extract g0 0 (Int.toNat (↑(ByteArray.size (mk (prefixB (bl g0)))) : Int))) == bl (mk (prefixB (bl g0)))))])
            none)
           (some [(.bool (false))])))
         none)
        (cond (leI (↑(ByteArray.size (mk (prefixB (bl g0)))) : Int) (↑(ByteArray.size g0) : Int))
         (cond (leI 0 (↑(ByteArray.size (mk (prefixB (bl g0)))) : Int) && leI (↑(ByteArray.size (mk (prefixB (bl g0)))) : Int) (↑(ByteArray.size g0) : Int))
          (some [(.bool (bl (ByteArray.extract g0 0 (Int.toNat (↑(ByteArray.size (mk (prefixB (bl g0)))) : Int))) == bl (mk (prefixB (bl g0)))))])
          none)
         (some [(.bool (false))]))))
      none)
     none))) := by kernel_rfl

/-! codesearch/codesearchlaw02.GlobParts -/
theorem GlobParts_e (G : Req → R) (p0 : ByteArray) (dir1 : ByteArray) : runB (cfg [k_alive, k_short, k_Base, k_Dir, k_Ext, k_Under, k_slash]) G (.enter 9 [(.lf (.str (p0))), (.lf (.str (dir1)))] []) =
  (cond (!leI (↑(ByteArray.size p0) : Int) 200)
   (some [(.bool (true))])
   (cond (!leI (↑(ByteArray.size dir1) : Int) 200)
    (some [(.bool (true))])
    (cond (Nat.ble (ByteArray.size p0) 1000000000000)
     (cond (Nat.ble (ByteArray.size p0) 1000000000000)
      (cond (Nat.ble (ByteArray.size p0) 1000000000000)
       (cond (Nat.ble (ByteArray.size (mk (baseB (bl p0)))) 1000000000000)
        (cond (hasB 47 (bl (mk (baseB (bl p0)))))
         (some [(.bool (false))])
         (cond (Nat.ble (ByteArray.size p0) 1000000000000)
          (cond (hasB 47 (bl p0))
           (cond (leI (↑(ByteArray.size (mk (dirB (bl p0))) + 1) : Int) (IntKind.max IntKind.i64))
            (cond (leI (↑(ByteArray.size (mk (dirB (bl p0)) ++ mk [47]) + ByteArray.size (mk (baseB (bl p0)))) : Int) (IntKind.max IntKind.i64))
             (cond (!bl (mk (dirB (bl p0)) ++ mk [47] ++ mk (baseB (bl p0))) == bl p0)
              (some [(.bool (false))])
              (cond (Nat.ble (ByteArray.size p0) 1000000000 && Nat.ble (ByteArray.size (mk (dirB (bl p0)))) 1000000000)
               (cond (!underB (bl p0) (bl (mk (dirB (bl p0)))))
                (some [(.bool (false))])
                (cond (Nat.ble (ByteArray.size p0) 1000000000000)
                 (cond (!hasB 47 (bl p0))
                  (cond (!bl (mk (baseB (bl p0))) == bl p0)
                   (some [(.bool (false))])
                   (cond (!bl (mk (dirB (bl p0))) == bl (mk []))
                    (some [(.bool (false))])
                    (cond (!bl (mk (extB (bl p0))) == bl (mk []))
                     (cond (ltI (↑(ByteArray.size (mk (baseB (bl p0)))) : Int) (wrapI IntKind.i64 ((↑(ByteArray.size (mk (extB (bl p0)))) : Int) + 1)))
                      (some [(.bool (false))])
                      (cond (leI 0 (wrapI IntKind.i64 (wrapI IntKind.i64 ((↑(ByteArray.size (mk (baseB (bl p0)))) : Int) - (↑(ByteArray.size (mk (extB (bl p0)))) : Int)) - 1)) && leI (wrapI IntKind.i64 (wrapI IntKind.i64 ((↑(ByteArray.size (mk (baseB (bl p0)))) : Int) - (↑(ByteArray.size (mk (extB (bl p0)))) : Int)) - 1)) (↑(ByteArray.size (mk (baseB (bl p0)))) : Int))
                       (cond (leI (↑(1 + ByteArray.size (mk (extB (bl p0)))) : Int) (IntKind.max IntKind.i64))
                        (cond (!bl (ByteArray.extract (mk (baseB (bl p0))) (Int.toNat (wrapI IntKind.i64 (wrapI IntKind.i64 ((↑(ByteArray.size (mk (baseB (bl p0)))) : Int) - (↑(ByteArray.size (mk (extB (bl p0)))) : Int)) - 1))) (ByteArray.size (mk (baseB (bl p0))))) == bl (mk [46] ++ mk (extB (bl p0))))
                         (some [(.bool (false))])
                         (cond (leI (↑(ByteArray.size dir1 + 1) : Int) (IntKind.max IntKind.i64))
                          (cond (leI (↑(ByteArray.size (dir1 ++ mk [47]) + ByteArray.size p0) : Int) (IntKind.max IntKind.i64))
                           (cond (Nat.ble (ByteArray.size (dir1 ++ mk [47] ++ p0)) 1000000000 && Nat.ble (ByteArray.size dir1) 1000000000)
                            (cond (underB (bl (dir1 ++ mk [47] ++ p0)) (bl dir1))
                             (cond (Nat.ble (ByteArray.size p0) 1000000000 && true)
                              (some [(.bool (underB (bl p0) (bl (mk []))))])
                              none)
                             (some [(.bool (false))]))
                            none)
                           none)
                          none))
                        none)
                       none))
                     (cond (leI (↑(ByteArray.size dir1 + 1) : Int) (IntKind.max IntKind.i64))
                      (cond (leI (↑(ByteArray.size (dir1 ++ mk [47]) + ByteArray.size p0) : Int) (IntKind.max IntKind.i64))
                       (cond (Nat.ble (ByteArray.size (dir1 ++ mk [47] ++ p0)) 1000000000 && Nat.ble (ByteArray.size dir1) 1000000000)
                        (cond (underB (bl (dir1 ++ mk [47] ++ p0)) (bl dir1))
                         (cond (Nat.ble (ByteArray.size p0) 1000000000 && true)
                          (some [(.bool (underB (bl p0) (bl (mk []))))])
                          none)
                         (some [(.bool (false))]))
                        none)
                       none)
                      none))))
                  (cond (!bl (mk (extB (bl p0))) == bl (mk []))
                   (cond (ltI (↑(ByteArray.size (mk (baseB (bl p0)))) : Int) (wrapI IntKind.i64 ((↑(ByteArray.size (mk (extB (bl p0)))) : Int) + 1)))
                    (some [(.bool (false))])
                    (cond (leI 0 (wrapI IntKind.i64 (wrapI IntKind.i64 ((↑(ByteArray.size (mk (baseB (bl p0)))) : Int) - (↑(ByteArray.size (mk (extB (bl p0)))) : Int)) - 1)) && leI (wrapI IntKind.i64 (wrapI IntKind.i64 ((↑(ByteArray.size (mk (baseB (bl p0)))) : Int) - (↑(ByteArray.size (mk (extB (bl p0)))) : Int)) - 1)) (↑(ByteArray.size (mk (baseB (bl p0)))) : Int))
                     (cond (leI (↑(1 + ByteArray.size (mk (extB (bl p0)))) : Int) (IntKind.max IntKind.i64))
                      (cond (!bl (ByteArray.extract (mk (baseB (bl p0))) (Int.toNat (wrapI IntKind.i64 (wrapI IntKind.i64 ((↑(ByteArray.size (mk (baseB (bl p0)))) : Int) - (↑(ByteArray.size (mk (extB (bl p0)))) : Int)) - 1))) (ByteArray.size (mk (baseB (bl p0))))) == bl (mk [46] ++ mk (extB (bl p0))))
                       (some [(.bool (false))])
                       (cond (leI (↑(ByteArray.size dir1 + 1) : Int) (IntKind.max IntKind.i64))
                        (cond (leI (↑(ByteArray.size (dir1 ++ mk [47]) + ByteArray.size p0) : Int) (IntKind.max IntKind.i64))
                         (cond (Nat.ble (ByteArray.size (dir1 ++ mk [47] ++ p0)) 1000000000 && Nat.ble (ByteArray.size dir1) 1000000000)
                          (cond (underB (bl (dir1 ++ mk [47] ++ p0)) (bl dir1))
                           (cond (Nat.ble (ByteArray.size p0) 1000000000 && true)
                            (some [(.bool (underB (bl p0) (bl (mk []))))])
                            none)
                           (some [(.bool (false))]))
                          none)
                         none)
                        none))
                      none)
                     none))
                   (cond (leI (↑(ByteArray.size dir1 + 1) : Int) (IntKind.max IntKind.i64))
                    (cond (leI (↑(ByteArray.size (dir1 ++ mk [47]) + ByteArray.size p0) : Int) (IntKind.max IntKind.i64))
                     (cond (Nat.ble (ByteArray.size (dir1 ++ mk [47] ++ p0)) 1000000000 && Nat.ble (ByteArray.size dir1) 1000000000)
                      (cond (underB (bl (dir1 ++ mk [47] ++ p0)) (bl dir1))
                       (cond (Nat.ble (ByteArray.size p0) 1000000000 && true)
                        (some [(.bool (underB (bl p0) (bl (mk []))))])
                        none)
                       (some [(.bool (false))]))
                      none)
                     none)
                    none)))
                 none))
               none))
             none)
            none)
           (cond (Nat.ble (ByteArray.size p0) 1000000000000)
            (cond (!hasB 47 (bl p0))
             (cond (!bl (mk (baseB (bl p0))) == bl p0)
              (some [(.bool (false))])
              (cond (!bl (mk (dirB (bl p0))) == bl (mk []))
               (some [(.bool (false))])
               (cond (!bl (mk (extB (bl p0))) == bl (mk []))
                (cond (ltI (↑(ByteArray.size (mk (baseB (bl p0)))) : Int) (wrapI IntKind.i64 ((↑(ByteArray.size (mk (extB (bl p0)))) : Int) + 1)))
                 (some [(.bool (false))])
                 (cond (leI 0 (wrapI IntKind.i64 (wrapI IntKind.i64 ((↑(ByteArray.size (mk (baseB (bl p0)))) : Int) - (↑(ByteArray.size (mk (extB (bl p0)))) : Int)) - 1)) && leI (wrapI IntKind.i64 (wrapI IntKind.i64 ((↑(ByteArray.size (mk (baseB (bl p0)))) : Int) - (↑(ByteArray.size (mk (extB (bl p0)))) : Int)) - 1)) (↑(ByteArray.size (mk (baseB (bl p0)))) : Int))
                  (cond (leI (↑(1 + ByteArray.size (mk (extB (bl p0)))) : Int) (IntKind.max IntKind.i64))
                   (cond (!bl (ByteArray.extract (mk (baseB (bl p0))) (Int.toNat (wrapI IntKind.i64 (wrapI IntKind.i64 ((↑(ByteArray.size (mk (baseB (bl p0)))) : Int) - (↑(ByteArray.size (mk (extB (bl p0)))) : Int)) - 1))) (ByteArray.size (mk (baseB (bl p0))))) == bl (mk [46] ++ mk (extB (bl p0))))
                    (some [(.bool (false))])
                    (cond (leI (↑(ByteArray.size dir1 + 1) : Int) (IntKind.max IntKind.i64))
                     (cond (leI (↑(ByteArray.size (dir1 ++ mk [47]) + ByteArray.size p0) : Int) (IntKind.max IntKind.i64))
                      (cond (Nat.ble (ByteArray.size (dir1 ++ mk [47] ++ p0)) 1000000000 && Nat.ble (ByteArray.size dir1) 1000000000)
                       (cond (underB (bl (dir1 ++ mk [47] ++ p0)) (bl dir1))
                        (cond (Nat.ble (ByteArray.size p0) 1000000000 && true)
                         (some [(.bool (underB (bl p0) (bl (mk []))))])
                         none)
                        (some [(.bool (false))]))
                       none)
                      none)
                     none))
                   none)
                  none))
                (cond (leI (↑(ByteArray.size dir1 + 1) : Int) (IntKind.max IntKind.i64))
                 (cond (leI (↑(ByteArray.size (dir1 ++ mk [47]) + ByteArray.size p0) : Int) (IntKind.max IntKind.i64))
                  (cond (Nat.ble (ByteArray.size (dir1 ++ mk [47] ++ p0)) 1000000000 && Nat.ble (ByteArray.size dir1) 1000000000)
                   (cond (underB (bl (dir1 ++ mk [47] ++ p0)) (bl dir1))
                    (cond (Nat.ble (ByteArray.size p0) 1000000000 && true)
                     (some [(.bool (underB (bl p0) (bl (mk []))))])
                     none)
                    (some [(.bool (false))]))
                   none)
                  none)
                 none))))
             (cond (!bl (mk (extB (bl p0))) == bl (mk []))
              (cond (ltI (↑(ByteArray.size (mk (baseB (bl p0)))) : Int) (wrapI IntKind.i64 ((↑(ByteArray.size (mk (extB (bl p0)))) : Int) + 1)))
               (some [(.bool (false))])
               (cond (leI 0 (wrapI IntKind.i64 (wrapI IntKind.i64 ((↑(ByteArray.size (mk (baseB (bl p0)))) : Int) - (↑(ByteArray.size (mk (extB (bl p0)))) : Int)) - 1)) && leI (wrapI IntKind.i64 (wrapI IntKind.i64 ((↑(ByteArray.size (mk (baseB (bl p0)))) : Int) - (↑(ByteArray.size (mk (extB (bl p0)))) : Int)) - 1)) (↑(ByteArray.size (mk (baseB (bl p0)))) : Int))
                (cond (leI (↑(1 + ByteArray.size (mk (extB (bl p0)))) : Int) (IntKind.max IntKind.i64))
                 (cond (!bl (ByteArray.extract (mk (baseB (bl p0))) (Int.toNat (wrapI IntKind.i64 (wrapI IntKind.i64 ((↑(ByteArray.size (mk (baseB (bl p0)))) : Int) - (↑(ByteArray.size (mk (extB (bl p0)))) : Int)) - 1))) (ByteArray.size (mk (baseB (bl p0))))) == bl (mk [46] ++ mk (extB (bl p0))))
                  (some [(.bool (false))])
                  (cond (leI (↑(ByteArray.size dir1 + 1) : Int) (IntKind.max IntKind.i64))
                   (cond (leI (↑(ByteArray.size (dir1 ++ mk [47]) + ByteArray.size p0) : Int) (IntKind.max IntKind.i64))
                    (cond (Nat.ble (ByteArray.size (dir1 ++ mk [47] ++ p0)) 1000000000 && Nat.ble (ByteArray.size dir1) 1000000000)
                     (cond (underB (bl (dir1 ++ mk [47] ++ p0)) (bl dir1))
                      (cond (Nat.ble (ByteArray.size p0) 1000000000 && true)
                       (some [(.bool (underB (bl p0) (bl (mk []))))])
                       none)
                      (some [(.bool (false))]))
                     none)
                    none)
                   none))
                 none)
                none))
              (cond (leI (↑(ByteArray.size dir1 + 1) : Int) (IntKind.max IntKind.i64))
               (cond (leI (↑(ByteArray.size (dir1 ++ mk [47]) + ByteArray.size p0) : Int) (IntKind.max IntKind.i64))
                (cond (Nat.ble (ByteArray.size (dir1 ++ mk [47] ++ p0)) 1000000000 && Nat.ble (ByteArray.size dir1) 1000000000)
                 (cond (underB (bl (dir1 ++ mk [47] ++ p0)) (bl dir1))
                  (cond (Nat.ble (ByteArray.size p0) 1000000000 && true)
                   (some [(.bool (underB (bl p0) (bl (mk []))))])
                   none)
                  (some [(.bool (false))]))
                 none)
                none)
               none)))
            none))
          none))
        none)
       none)
      none)
     none))) := by kernel_rfl

/-! codesearch/codesearchlaw02.GlobJoins -/
theorem GlobJoins_e (G : Req → R) (g0_0 : ByteArray) (g0_1 : ByteArray) (p1_0 : ByteArray) (p1_1 : ByteArray) : runB (cfg [k_alive, k_Match, k_Right]) G (.enter 6 [(.agg [(.str (g0_0)), (.str (g0_1))]), (.agg [(.str (p1_0)), (.str (p1_1))])] []) =
  (cond (ltI 100 (↑(ByteArray.size g0_0) : Int))
   (some [(.bool (true))])
   (cond (ltI 100 (↑(ByteArray.size g0_1) : Int))
    (some [(.bool (true))])
    (cond (ltI 100 (↑(ByteArray.size p1_0) : Int))
     (some [(.bool (true))])
     (cond (ltI 100 (↑(ByteArray.size p1_1) : Int))
      (some [(.bool (true))])
      (cond (Nat.ble (ByteArray.size g0_0) 1000000 && Nat.ble (ByteArray.size p1_0) 1000000)
       (cond (!matchE (bl g0_0) (bl p1_0))
        (some [(.bool (true))])
        (cond (Nat.ble (ByteArray.size g0_1) 1000000 && Nat.ble (ByteArray.size p1_1) 1000000)
         (cond (!matchE (bl g0_1) (bl p1_1))
          (some [(.bool (true))])
          (cond (leI (↑(ByteArray.size g0_0 + ByteArray.size g0_1) : Int) (IntKind.max IntKind.i64))
           (cond (Nat.ble (ByteArray.size (g0_0 ++ g0_1)) 1000000000000)
            (cond (rightE (bl (g0_0 ++ g0_1)) != 0)
             (some [(.bool (true))])
             (cond (leI (↑(ByteArray.size g0_0 + ByteArray.size g0_1) : Int) (IntKind.max IntKind.i64))
              (cond (leI (↑(ByteArray.size p1_0 + ByteArray.size p1_1) : Int) (IntKind.max IntKind.i64))
               (cond (Nat.ble (ByteArray.size (g0_0 ++ g0_1)) 1000000 && Nat.ble (ByteArray.size (p1_0 ++ p1_1)) 1000000)
                (some [(.bool (matchE (bl (g0_0 ++ g0_1)) (bl (p1_0 ++ p1_1))))])
                none)
               none)
              none))
            none)
           none))
         none))
       none))))) := by kernel_rfl

/-! codesearch/codesearchlaw02.GlobAll -/
theorem GlobAll_e (G : Req → R) (p0 : ByteArray) : runB (cfg [k_alive, k_short, k_Match, k_slash]) G (.enter 7 [(.lf (.str (p0)))] []) =
  (cond (!leI (↑(ByteArray.size p0) : Int) 200)
   (some [(.bool (true))])
   (cond (Nat.ble (ByteArray.size p0) 1000000)
    (cond (matchE (bl (mk [42, 42])) (bl p0))
     (cond (Nat.ble (ByteArray.size p0) 1000000)
      (cond (Nat.ble (ByteArray.size p0) 1000000000000)
       (some [(.bool (!matchE (bl (mk [42])) (bl p0) == hasB 47 (bl p0)))])
       none)
      none)
     (some [(.bool (false))]))
    none)) := by kernel_rfl

end Go.Ab
namespace Go.Ab
open Go.Proofs

theorem zero56 : ∀ w : World, (zeroValue 56).run Tryd.prog w = .ok (.agg (Array.replicate 256 (.bool false))) w := (zero_of_info (t := 56) (n := 256) (by kernel_rfl)).1
theorem IndexAny_holds : Holds k_IndexAny := by
  intro aa hp r h w fz ρ S0 vs H ha
  unfold k_IndexAny at h ⊢
  dsimp only at h ⊢
  split at h
  case h_2 => cases h
  rename_i s t
  obtain ⟨g, rfl⟩ := xo h
  rw [Bool.and_eq_true, Nat.ble_eq] at g
  obtain ⟨l, rfl⟩ := str_cases s
  obtain ⟨m, rfl⟩ := str_cases t
  have hm : m = [42, 63, 91] := by simpa using g.2
  subst hm
  have hl : l.length ≤ 1000000 := g.1
  by_cases h8 : 8 < l.length
  · have hc := Tryd.strings_IndexAny_long zero56 (mk l) (mk [42, 63, 91]) w (by decide) h8 (by rw [size_mk]; omega) (by decide) (by
      intro j b hj
      have : b ∈ ([42, 63, 91] : List UInt8) := List.mem_of_getElem? hj
      simp only [List.mem_cons, List.not_mem_nil, or_false] at this
      rcases this with rfl | rfl | rfl <;> decide)
    rw [args_ss ha]
    refine hc.mono ?_
    rintro e w' ⟨rfl, rfl⟩
    have hold : ∀ k, k < w.heap.size → ((w.alloc (.cells (Lib.setCells (mk [42, 63, 91]).data.toList) 56)).alloc (.cells (Lib.setCells (mk [42, 63, 91]).data.toList) 56)).heap[k]? = w.heap[k]? := fun k hk => by
      exact (heap_alloc_old _ _ (by simp; omega)).trans (heap_alloc_old _ _ hk)
    exact ⟨_, fz, rfl, endOk_two (C := cfg []) (k := .int .i64) (t := 3) (.of_old rfl rfl rfl (by simp; omega) hold H.lt) (fun g o hg => by have := H.lt g o hg; simp; omega) Tryd.func31 rfl (by kernel_rfl) (by kernel_rfl) (by simp) ⟨_, rfl⟩ (.int _ _)⟩
  · refine con_run (f := n_strings_IndexAny) (S := fun
        | [.lf (.str s), .lf (.str t)], [] => some (Nat.ble s.size 8 && (bl t == [42, 63, 91]), [.int .i64 (Lib.indexAny (bl s) [42, 63, 91])])
        | _, _ => none) (xs := [k_IndexRune, k_useSet, k_noSet]) (hold1 IndexRune_holds (hold1 useSet_holds (hold1 noSet_holds hold0))) ?_ [.lf (.str (mk l)), .lf (.str (mk [42, 63, 91]))] [] _ ?_ w fz ρ S0 vs H ha
    · intro aa hp r h
      split at h
      case h_2 => cases h
      rename_i s t
      obtain ⟨g, rfl⟩ := xo h
      rw [Bool.and_eq_true, Nat.ble_eq] at g
      obtain ⟨l, rfl⟩ := str_cases s
      obtain ⟨m, rfl⟩ := str_cases t
      have hm : m = [42, 63, 91] := by simpa using g.2
      subst hm
      have hl : l.length ≤ 8 := g.1
      refine Runs.by (IndexAny_e · _) ?_
      have hsz : (mk l).size = l.length := rfl
      simp (disch := omega) only [hsz, ev_lt_f, cond_false]
      have := any_loop l hl l.length 0 (Nat.zero_le _) (by omega)
      have e : sh (Lib.indexAny (l.drop 0) [42, 63, 91]) 0 = Lib.indexAny l [42, 63, 91] := by
        rw [List.drop_zero]
        have := Lib.indexAny_ge [42, 63, 91] l
        unfold sh
        split <;> omega
      rw [e] at this
      exact .go this
    · show some (Nat.ble l.length 8 && true, _) = _
      rw [ev_blt (by omega)]
      rfl
theorem Prefix_holds : Holds k_Prefix := con_run (xs := [k_IndexAny]) (hold1 IndexAny_holds hold0) fun aa hp r h => by
  split at h
  case h_2 => cases h
  rename_i s
  obtain ⟨g, rfl⟩ := xo h
  rw [Nat.ble_eq] at g
  obtain ⟨l, rfl⟩ := str_cases s
  rw [size_mk] at g
  refine Runs.by (Prefix_e · _) ?_
  have hsz : (mk l).size = l.length := rfl
  rw [bl_mk]
  rcases indexAny_cases l with ⟨h1, h2⟩ | ⟨m, h0, h1, h2, _⟩
  · rw [h1, h2]
    have e0 : leI 0 (-1) = false := rfl
    simp (disch := omega) only [hsz, ev_blt, Bool.and_true, cond_true, e0, cond_false]
    exact .ret
  · rw [h1, h2]
    simp (disch := omega) only [hsz, ev_blt, Bool.and_true, cond_true, ev_le_t, Bool.and_self, Int.toNat_natCast, ext_mk, List.drop_zero]
    exact .ret
theorem alive_holds : Holds k_alive := con_run (xs := [k_ValidPath, k_Base, k_Dir, k_Ext, k_Match, k_Right, k_Prefix]) (hold1 ValidPath_holds (hold1 Base_holds (hold1 Dir_holds (hold1 Ext_holds (hold1 Match_holds (hold1 Right_holds (hold1 Prefix_holds hold0))))))) fun aa hp r h => by
  split at h
  case h_2 => cases h
  obtain ⟨_, rfl⟩ := xo h
  exact Runs.by (alive_e ·) .ret

/-! ### the laws -/
theorem run_GlobChecks (g : ByteArray) : Runs (cfg [k_alive, k_short, k_Right, k_rRight, k_Prefix, k_rPrefix]) (.enter 3 [.lf (.str g)] []) [.bool true] := by
  refine Runs.by (GlobChecks_e · _) ?_
  obtain ⟨l, rfl⟩ := str_cases g
  have hsz : (mk l).size = l.length := rfl
  simp (disch := omega) only [hsz, ev_blt, cond_true, bl_mk]
  by_cases h : l.length ≤ 200
  · simp (disch := omega) only [ev_le_t, Bool.not_true, cond_false, beq_self_eq_true, cond_true, ev_blt]
    exact .ret
  · simp (disch := omega) only [ev_le_f, Bool.not_false, cond_true]
    exact .ret
theorem run_GlobMatches (g p : ByteArray) : Runs (cfg [k_alive, k_short, k_Match, k_rMatch]) (.enter 4 [.lf (.str g), .lf (.str p)] []) [.bool true] := by
  refine Runs.by (GlobMatches_e · _ _) ?_
  obtain ⟨l, rfl⟩ := str_cases g
  obtain ⟨m, rfl⟩ := str_cases p
  have hsz : (mk l).size = l.length := rfl
  have hsm : (mk m).size = m.length := rfl
  simp (disch := omega) only [hsz, hsm, ev_blt, cond_true, bl_mk]
  by_cases h : l.length ≤ 200
  · by_cases h' : m.length ≤ 200
    · simp (disch := omega) only [ev_le_t, Bool.not_true, cond_false, beq_self_eq_true, cond_true, ev_blt, Bool.and_self]
      exact .ret
    · simp (disch := omega) only [ev_le_t, Bool.not_true, cond_false, ev_le_f, Bool.not_false, cond_true]
      exact .ret
  · simp (disch := omega) only [ev_le_f, Bool.not_false, cond_true]
    exact .ret
theorem run_GlobPaths (g p : ByteArray) : Runs (cfg [k_alive, k_short, k_ValidPath, k_rValidPath, k_Base, k_rBase, k_Dir, k_rDir, k_Ext, k_rExt, k_Under, k_rUnder]) (.enter 8 [.lf (.str g), .lf (.str p)] []) [.bool true] := by
  refine Runs.by (GlobPaths_e · _ _) ?_
  obtain ⟨l, rfl⟩ := str_cases g
  obtain ⟨m, rfl⟩ := str_cases p
  have hsz : (mk l).size = l.length := rfl
  have hsm : (mk m).size = m.length := rfl
  simp (disch := omega) only [hsz, hsm, ev_blt, cond_true, bl_mk]
  by_cases h : l.length ≤ 200
  · by_cases h' : m.length ≤ 200
    · simp (disch := omega) only [ev_le_t, Bool.not_true, cond_false, beq_self_eq_true, cond_true, ev_blt, Bool.and_self]
      exact .ret
    · simp (disch := omega) only [ev_le_t, Bool.not_true, cond_false, ev_le_f, Bool.not_false, cond_true]
      exact .ret
  · simp (disch := omega) only [ev_le_f, Bool.not_false, cond_true]
    exact .ret
theorem run_GlobAll (p : ByteArray) : Runs (cfg [k_alive, k_short, k_Match, k_slash]) (.enter 7 [.lf (.str p)] []) [.bool true] := by
  refine Runs.by (GlobAll_e · _) ?_
  obtain ⟨m, rfl⟩ := str_cases p
  have hsm : (mk m).size = m.length := rfl
  have hx : (!((!hasB 47 m) == hasB 47 m)) = true := by cases hasB 47 m <;> rfl
  simp (disch := omega) only [hsm, ev_blt, cond_true, bl_mk, glob_all2, glob_all1]
  by_cases h' : m.length ≤ 200
  · simp (disch := omega) only [ev_le_t, Bool.not_true, cond_false, ev_blt, cond_true]
    exact .ret' (by rw [hx])
  · simp (disch := omega) only [ev_le_f, Bool.not_false, cond_true]
    exact .ret
theorem run_GlobJoins (g0 g1 p0 p1 : ByteArray) : Runs (cfg [k_alive, k_Match, k_Right]) (.enter 6 [.agg [.str g0, .str g1], .agg [.str p0, .str p1]] []) [.bool true] := by
  refine Runs.by (GlobJoins_e · _ _ _ _) ?_
  obtain ⟨a, rfl⟩ := str_cases g0
  obtain ⟨b, rfl⟩ := str_cases g1
  obtain ⟨c, rfl⟩ := str_cases p0
  obtain ⟨d, rfl⟩ := str_cases p1
  have ha : (mk a).size = a.length := rfl
  have hb : (mk b).size = b.length := rfl
  have hc : (mk c).size = c.length := rfl
  have hd : (mk d).size = d.length := rfl
  have hab : (mk (a ++ b)).size = a.length + b.length := by simp [size_mk]
  have hcd : (mk (c ++ d)).size = c.length + d.length := by simp [size_mk]
  simp only [ha, hb, hc, hd, app_mk, hab, hcd, bl_mk, imax]
  by_cases h1 : 100 < a.length
  · simp (disch := omega) only [ev_lt_t, cond_true]; exact .ret
  by_cases h2 : 100 < b.length
  · simp (disch := omega) only [ev_lt_t, ev_lt_f, cond_true, cond_false]; exact .ret
  by_cases h3 : 100 < c.length
  · simp (disch := omega) only [ev_lt_t, ev_lt_f, cond_true, cond_false]; exact .ret
  by_cases h4 : 100 < d.length
  · simp (disch := omega) only [ev_lt_t, ev_lt_f, cond_true, cond_false]; exact .ret
  simp (disch := omega) only [ev_lt_f, cond_false, ev_blt, Bool.and_self, cond_true, ev_le_t]
  cases m1 : matchE a c with
  | false => exact .ret
  | true =>
    cases m2 : matchE b d with
    | false => exact .ret
    | true =>
      simp only [Bool.not_true, cond_false]
      cases hr : rightE (a ++ b) == 0 with
      | false =>
        have : (rightE (a ++ b) != 0) = true := by show (!(rightE (a ++ b) == 0)) = true; rw [hr]; rfl
        rw [this]; exact .ret
      | true =>
        have : (rightE (a ++ b) != 0) = false := by show (!(rightE (a ++ b) == 0)) = false; rw [hr]; rfl
        rw [this, glob_joins m1 m2 hr]; exact .ret
theorem run_GlobPrefix (g p : ByteArray) : Runs (cfg [k_alive, k_short, k_Match, k_Prefix, k_Right]) (.enter 5 [.lf (.str g), .lf (.str p)] []) [.bool true] := by
  refine Runs.by (GlobPrefix_e · _ _) ?_
  obtain ⟨l, rfl⟩ := str_cases g
  obtain ⟨m, rfl⟩ := str_cases p
  have hsz : (mk l).size = l.length := rfl
  have hsm : (mk m).size = m.length := rfl
  have hsx : (mk (prefixB l)).size = (prefixB l).length := rfl
  simp (disch := omega) only [hsz, hsm, hsx, ev_blt, cond_true, bl_mk, ext_mk, Int.toNat_natCast, List.drop_zero]
  by_cases h : l.length ≤ 200
  case neg =>
    simp (disch := omega) only [ev_le_f, Bool.not_false, cond_true]
    exact .ret
  by_cases h' : m.length ≤ 200
  case neg =>
    simp (disch := omega) only [ev_le_t, Bool.not_true, cond_false, ev_le_f, Bool.not_false, cond_true]
    exact .ret
  have hpg := prefixB_pre l
  have hlen := hpg.length_le
  have htake : (l.take (prefixB l).length == prefixB l) = true := by simpa using (List.prefix_iff_eq_take.1 hpg).symm
  simp (disch := omega) only [ev_le_t, Bool.not_true, cond_false, ev_blt, Bool.and_self, cond_true, htake]
  -- the second half
  have tail : RunsF (cfg [k_alive, k_short, k_Match, k_Prefix, k_Right]) (fun G => cond (prefixB l == l) (cond (rightE l == 0) (cond (matchE l l) (some [L.bool (matchE l m == (l == m))]) (some [L.bool false])) (some [L.bool true])) (some [L.bool true])) [.bool true] := by
    cases hpl : prefixB l == l with
    | false => exact .ret
    | true =>
      cases hr : rightE l == 0 with
      | false => exact .ret
      | true =>
        have hpl' : prefixB l = l := by simpa using hpl
        rw [glob_self hpl' hr, glob_self hpl' hr]
        simp only [beq_self_eq_true, cond_true]
        exact .ret
  cases hm : matchE l m with
  | false => rw [hm] at tail; exact tail
  | true =>
    have hpm := glob_prefix hm
    have hlen2 := hpm.length_le
    have htake2 : (m.take (prefixB l).length == prefixB l) = true := by simpa using (List.prefix_iff_eq_take.1 hpm).symm
    simp (disch := omega) only [cond_true, ev_lt_f, cond_false, ev_le_t, Bool.and_self, htake2, Bool.not_true]
    rw [hm] at tail
    exact tail
end Go.Ab
namespace Go.Ab
open Go.Proofs

theorem atI_eq {l : List UInt8} {i : Nat} {c : UInt8} (hi : i < l.length) (h : atI l i = (c.toNat : Int)) : l[i]? = some c := by
  unfold atI at h
  rw [List.getElem?_eq_getElem hi]
  simp only [List.getD_eq_getElem?_getD, List.getElem?_eq_getElem hi, Option.getD_some] at h
  rw [UInt8.toNat_inj.1 (show l[i].toNat = c.toNat by omega)]
theorem cutAt (l : List UInt8) (k : Nat) (c : UInt8) (h : l[k]? = some c) : l.drop k = c :: l.drop (k + 1) := by
  obtain ⟨h1, h2⟩ := List.getElem?_eq_some_iff.1 h
  rw [List.drop_eq_getElem_cons h1, h2]
theorem lastI_cases (l : List UInt8) (c : UInt8) : (lastI l (c.toNat : Int) = -1 ∧ hasB c l = false) ∨ ∃ k, k < l.length ∧ lastI l (c.toNat : Int) = (k : Int) ∧ l = l.take k ++ c :: l.drop (k + 1) ∧ hasB c (l.drop (k + 1)) = false := by
  unfold lastI
  have none : ∀ m : List UInt8, (∀ b ∈ m, b ≠ c) → hasB c m = false := fun m h => by
    unfold hasB
    rw [List.any_eq_false]
    intro b hb; simpa using h b hb
  rcases lastN_cases l (c.toNat : Int) l.length with ⟨h1, h2⟩ | ⟨k, h1, h2, h3, h4⟩
  · refine .inl ⟨h1, none _ fun b hb e => ?_⟩
    subst e
    obtain ⟨i, hi, he⟩ := List.mem_iff_getElem.1 hb
    refine h2 i hi ?_
    unfold atI
    simp [List.getD, hi, he]
  · refine .inr ⟨k, h1, h2, ?_, none _ fun b hb e => ?_⟩
    · rw [← cutAt _ _ _ (atI_eq h1 h3), List.take_append_drop]
    · subst e
      obtain ⟨i, hi, he⟩ := List.mem_iff_getElem.1 hb
      simp only [List.length_drop] at hi
      refine h4 (k + 1 + i) (by omega) (by omega) ?_
      rw [List.getElem_drop] at he
      unfold atI
      simp [List.getD, show k + 1 + i < l.length by omega, he]
theorem hasB_mid (a b : List UInt8) (c : UInt8) : hasB c (a ++ c :: b) = true := by simp [hasB]
theorem base_cases (l : List UInt8) : (hasB 47 l = false ∧ baseB l = l ∧ dirB l = []) ∨ (hasB 47 l = true ∧ l = dirB l ++ 47 :: baseB l ∧ hasB 47 (baseB l) = false) := by
  rcases lastI_cases l 47 with ⟨h1, h2⟩ | ⟨k, h0, h1, h2, h3⟩
  · have h1 : lastI l 47 = -1 := h1
    exact .inl ⟨h2, by simp [baseB, h1], by simp [dirB, h1]⟩
  · have h1 : lastI l 47 = (k : Int) := h1
    have e : ((k : Int) + 1).toNat = k + 1 := by omega
    refine .inr ⟨by rw [h2]; exact hasB_mid _ _ _, ?_, ?_⟩
    · simp only [baseB, dirB, h1, e, Int.toNat_natCast]; exact h2
    · simp only [baseB, h1, e]; exact h3
theorem base_noSlash (l : List UInt8) : hasB 47 (baseB l) = false := by
  rcases base_cases l with ⟨h1, h2, _⟩ | ⟨_, _, h3⟩
  · rw [h2]; exact h1
  · exact h3
theorem ext_cases (l : List UInt8) : extB l = [] ∨ ∃ a, baseB l = a ++ 46 :: extB l := by
  unfold extB
  rcases lastI_cases (baseB l) 46 with ⟨h1, _⟩ | ⟨k, h0, h1, h2, h3⟩
  · have h1 : lastI (baseB l) 46 = -1 := h1
    left; rw [h1]; rfl
  · have h1 : lastI (baseB l) 46 = (k : Int) := h1
    have e : ((k : Int) + 1).toNat = k + 1 := by omega
    rw [h1, if_neg (by omega), e]
    exact .inr ⟨_, h2⟩
theorem underB_mid (d b : List UInt8) : underB (d ++ 47 :: b) d = true := by
  unfold underB
  have : (d ++ [47]).isPrefixOf (d ++ 47 :: b) = true := by
    rw [List.isPrefixOf_iff_prefix]
    exact ⟨b, by simp⟩
  rw [this]; simp
theorem run_GlobParts (g p : ByteArray) : Runs (cfg [k_alive, k_short, k_Base, k_Dir, k_Ext, k_Under, k_slash]) (.enter 9 [.lf (.str g), .lf (.str p)] []) [.bool true] := by
  refine Runs.by (GlobParts_e · _ _) ?_
  obtain ⟨l, rfl⟩ := str_cases g
  obtain ⟨m, rfl⟩ := str_cases p
  have hsz : (mk l).size = l.length := rfl
  have hsm : (mk m).size = m.length := rfl
  simp only [hsz, hsm]
  by_cases h : l.length ≤ 200
  case neg =>
    simp (disch := omega) only [ev_le_f, Bool.not_false, cond_true]
    exact .ret
  by_cases h' : m.length ≤ 200
  case neg =>
    simp (disch := omega) only [ev_le_t, Bool.not_true, cond_false, ev_le_f, Bool.not_false, cond_true]
    exact .ret
  have hsb : (mk (baseB l)).size = (baseB l).length := rfl
  have hsd : (mk (dirB l)).size = (dirB l).length := rfl
  have hse : (mk (extB l)).size = (extB l).length := rfl
  have hbl := baseB_len l
  have hdl : (dirB l).length ≤ l.length := by simp only [dirB, List.length_take]; omega
  have hel : (extB l).length ≤ (baseB l).length := by unfold extB; split <;> simp
  have h1 : (mk (dirB l) ++ mk [47]).size = (dirB l).length + 1 := by simp [size_mk]
  have h2 : (mk m ++ mk [47]).size = m.length + 1 := by simp [size_mk]
  have h3 : (mk m ++ mk [47] ++ mk l).size = m.length + 1 + l.length := by simp [size_mk]
  have h4 : bl (mk m ++ mk [47] ++ mk l) = m ++ 47 :: l := by rw [app_mk, app_mk]; simp
  have h5 : bl (mk (dirB l) ++ mk [47] ++ mk (baseB l)) = dirB l ++ 47 :: baseB l := by rw [app_mk, app_mk]; simp
  have h6 : bl (mk [46] ++ mk (extB l)) = 46 :: extB l := by rw [app_mk]; simp
  have hu1 : underB (m ++ 47 :: l) m = true := underB_mid m l
  have hu2 : underB l [] = true := by simp [underB]
  have hnil : bl (mk []) = [] := rfl
  simp (disch := omega) only [ev_le_t, Bool.not_true, cond_false, ev_blt, cond_true, Bool.and_self, bl_mk, hsb, hsd, hse, h1, h2, h3, h4, h5, h6, hu1, hu2, imax, base_noSlash, Bool.and_true]
  -- the extension
  have ext : RunsF (cfg [k_alive, k_short, k_Base, k_Dir, k_Ext, k_Under, k_slash]) (fun G => cond (!extB l == []) (cond (ltI ((baseB l).length : Int) (wrapI .i64 (((extB l).length : Int) + 1))) (some [L.bool false])
      (cond (leI 0 (wrapI .i64 (wrapI .i64 (((baseB l).length : Int) - ((extB l).length : Int)) - 1)) && leI (wrapI .i64 (wrapI .i64 (((baseB l).length : Int) - ((extB l).length : Int)) - 1)) ((baseB l).length : Int))
        (cond (!bl ((mk (baseB l)).extract (wrapI .i64 (wrapI .i64 (((baseB l).length : Int) - ((extB l).length : Int)) - 1)).toNat (baseB l).length) == 46 :: extB l) (some [L.bool false]) (some [L.bool true])) none)) (some [L.bool true])) [.bool true] := by
    rcases ext_cases l with he | ⟨a, ha⟩
    · rw [he]; exact .ret
    · have hlen : (baseB l).length = a.length + 1 + (extB l).length := by
        have := congrArg List.length ha
        simp at this; omega
      cases hx : extB l == [] with
      | true => exact .ret
      | false =>
        have e1 : ((baseB l).length : Int) - ((extB l).length : Int) - 1 = (a.length : Int) := by omega
        have e2 : (baseB l).drop a.length = 46 :: extB l := by rw [ha]; simp
        simp (disch := omega) only [Bool.not_false, cond_true, w64, ev_lt_f, cond_false, e1, ev_le_t, Bool.and_self, Int.toNat_natCast, ext_mk, List.take_length, e2, bl_mk, beq_self_eq_true, Bool.not_true]
        exact .ret
  rcases base_cases l with ⟨b1, b2, b3⟩ | ⟨b1, b2, b3⟩
  · have e1 : (baseB l == l) = true := by rw [b2]; simp
    have e2 : (dirB l == []) = true := by rw [b3]; rfl
    simp only [b1, e1, e2, cond_false, Bool.not_false, cond_true, Bool.not_true]
    exact ext
  · have e1 : (dirB l ++ 47 :: baseB l == l) = true := by rw [← b2]; simp
    have e3 : underB l (dirB l) = true := by
      have := underB_mid (dirB l) (baseB l)
      rwa [← b2] at this
    simp only [b1, e1, e3, cond_false, Bool.not_true, cond_true]
    exact ext

/-- An array of two strings is opened. -/
theorem open_pair {H : Type} {enc : TypeId × Value → H} {P : Program} {W : World} {r : Reach} {b0 : Nat} {t e : TypeId} {v : Value} {d : DataW H} {ps : List MemPlace} (ht : P.underlying t = some (.array 2 e)) (he : P.underlying e = some .string) (hc : P.cellsOf e = 1) (hct : P.cellsOf t = 2)
    (hval : Value.okWide P W r b0 t v) (hd : DataW.Trod enc P W 0 (fun _ => true) true t v d ps) :
    ∃ x y : ByteArray, v = .agg #[.string x, .string y] ∧ d = .agg [.lit (.string x.data.toList), .lit (.string y.data.toList)] ∧ ps = [] ∧
      ∀ (W' : World) (sp : Nat → Bool), DataW.Trod enc P W' 0 sp true t v d ps := by
  unfold Value.okWide at hval
  rw [ht] at hval
  obtain ⟨cs, rfl, hsz, _⟩ := hval
  obtain ⟨fuel, hf⟩ := hd
  have hcs : (Value.agg cs).cells = cs := rfl
  rw [hcs] at hf
  obtain ⟨xs, m, rfl, hx, hl, hn, hel⟩ := DataW.trod_array ht hf
  rw [hct] at hl
  obtain ⟨l⟩ := cs
  match l, hl with
  | [c0, c1], _ =>
    have e0 := hel 0 (by decide)
    have e1 := hel 1 (by decide)
    rw [hc] at e0 e1
    match xs, hn with
    | [x0, x1], _ =>
      have e0 : DataW.trod enc P W 0 (fun _ => true) true m e [c0] = some x0 := e0
      have e1 : DataW.trod enc P W 0 (fun _ => true) true m e [c1] = some x1 := e1
      obtain ⟨s0, a0, b0, w0⟩ := DataW.trod_string he e0
      obtain ⟨s1, a1, b1, w1⟩ := DataW.trod_string he e1
      simp only [List.cons.injEq, and_true] at a0 a1
      subst a0 a1 b0 b1
      simp only [Prod.mk.injEq, List.map_cons, List.map_nil, List.flatMap_cons, List.flatMap_nil, List.append_nil] at hx
      obtain ⟨rfl, rfl⟩ := hx
      refine ⟨s0, s1, rfl, rfl, rfl, fun W' sp => ⟨2, ?_⟩⟩
      have hr : List.range 2 = [0, 1] := rfl
      rw [hcs]
      simp [DataW.trod, ht, he, hc, hct, hr, w0, w1]
end Go.Ab
