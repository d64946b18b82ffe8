/- The library's contracts: Itoa, Join, Contains, Split; quote's. -/
import Derived.Test.YtnalffdkchhcoaaGreatDoorPartSc1
import Derived.Lib.AppendIntMem
import Derived.Test.YtnalffdkchhcoaaGreatDoorPartSc2
namespace Go.Ab
open Go.Proofs

theorem Itoa_holds : Holds k_Itoa := extFor_tabs (C := cfg []) (fn := Tryz.f23) (t := 9) (k := .str) Tryz.func23 rfl kinds9 agg9 (by simp) fun aa hp r h => by
  simp only [k_Itoa] at h
  split at h
  case h_2 => cases h
  rename_i n
  obtain ⟨g, rfl⟩ := xo h
  obtain ⟨g1, g2⟩ := i64B_of g
  refine ⟨_, rfl, rfl, ⟨_, rfl⟩, fun w fz ρ vs ht ha => ⟨_, fun w' => .str _, ?_⟩⟩
  rw [args_i ha]
  have htab : Lib.TabIs Tryz.prog w "internal/strconv.uint64pow10" .u64 Lib.pow10Tab := by
    obtain ⟨cs, h1, h2⟩ := ht ("internal/strconv.uint64pow10", fun cs => cs = (Lib.pow10Tab.map fun z => Value.int .u64 z).toArray) (by
      show _ ∈ tabsL
      simp [tabsL])
    have h2' : cs = (Lib.pow10Tab.map fun z => Value.int .u64 z).toArray := h2
    subst h2'
    exact h1
  refine (Tryz.strconv_Itoa n g1 g2 w htab).mono ?_
  rintro e w' ⟨rfl, k, os, rfl⟩
  exact ⟨rfl, Lib.below_grow _ _ (Nat.le_refl _) _ _⟩
theorem cellq_lt {w : World} {a : Addr} {v : Value} (h : w.cell? a = some v) : a.block < w.heap.size := by
  unfold World.cell? at h
  split at h
  · rename_i cs t fr e
    exact (Array.getElem?_eq_some_iff.1 e).1
  · cases h
theorem add_plain (b o j : Nat) : (⟨b, o, none⟩ : Addr).add j = ⟨b, o + j, none⟩ := by
  unfold Addr.add
  split
  · rename_i h; simp_all
  · rfl
theorem conf9 {P : Program} (hk : kinds P 9 = [.str]) {e : List L} (h : Conf P 9 e) : e = [L.str (cT 0 e)] := by
  unfold Conf at h
  rw [hk] at h
  match e, h with
  | [l], h =>
    obtain ⟨⟨s, rfl⟩, _⟩ := h
    rfl
theorem strs_of {P : Program} (hk : kinds P 9 = [.str]) : ∀ xs : List (List L), (∀ e ∈ xs, Conf P 9 e) → xs = (xs.map (cT 0)).map fun s => [L.str s]
  | [], _ => rfl
  | e :: xs, h => by
    have h1 := conf9 hk (h e List.mem_cons_self)
    have h2 := strs_of hk xs fun e he => h e (List.mem_cons_of_mem _ he)
    rw [List.map_cons, List.map_cons, ← h2, ← h1]
theorem flat_strs : ∀ l : List ByteArray, (l.map fun s => [L.str s]).flatten = l.map L.str
  | [] => rfl
  | a :: l => by rw [List.map_cons, List.flatten_cons, flat_strs l]; rfl
theorem flat_at {P : Program} (hk : kinds P 9 = [.str]) {xs : List (List L)} (h : ∀ e ∈ xs, Conf P 9 e) (j : Nat) (s : ByteArray) (hj : (xs.map (cT 0))[j]? = some s) : xs.flatten[j]? = some (L.str s) := by
  have e := strs_of hk xs h
  have e2 : xs.flatten = (xs.map (cT 0)).map L.str := (congrArg List.flatten e).trans (flat_strs _)
  rw [e2, List.getElem?_map, hj]; rfl
/-- A slice of strings in memory. -/
theorem strs_cells {C : Cfg} (hk : kinds C.P 9 = [.str]) {w : World} {fz : Fz} {ρ : Rho} {v : Value} {xs : List (List L)} (h : Rep C.P w fz ρ v (.lst 9 xs)) :
    ∃ A n c, v = .slice A n c ∧ n = xs.length ∧ n ≤ c ∧ (xs ≠ [] → ∃ bk o, A = some ⟨bk, o, none⟩ ∧ bk < w.heap.size ∧ ∀ (j : Nat) x, (xs.map (cT 0))[j]? = some x → w.cell? ⟨bk, o + j, none⟩ = some (.string x)) := by
  cases h with
  | lst A n c _ _ u ad e1 e2 e3 e4 e5 e6 e7 =>
    refine ⟨A, n, c, rfl, e1, e2, fun hx => ?_⟩
    have := e4 hx
    subst this
    have hcell : ∀ j s, (xs.map (cT 0))[j]? = some s → w.cell? (ad.add j) = some (.string s) := fun j s hj => by
      have h := flat_at hk e3 j s hj
      rw [e5 j _ h, rep_str (e7 j _ h)]
    have hlen : 0 < xs.length := List.length_pos_iff.2 hx
    obtain ⟨bk, o, sp⟩ := ad
    have h0 := hcell 0 ((xs.map (cT 0))[0]'(by simpa using hlen)) (List.getElem?_eq_getElem _)
    have hsp : sp = none := by
      have h0' : w.cell? ⟨bk, o, sp⟩ = some (Value.string ((xs.map (cT 0))[0]'(by simpa using hlen))) := by simpa [Addr.add] using h0
      unfold World.cell? at h0'
      split at h0'
      · split at h0'
        · cases h0'
        · rename_i hn; simpa using hn
      · cases h0'
    subst hsp
    have hb := cellq_lt h0
    have hb' : bk < w.heap.size := by simpa [Addr.add] using hb
    exact ⟨bk, o, rfl, hb', fun j x hj => by have := hcell j x hj; rwa [add_plain] at this⟩
theorem join_jn (l : List W) : Lib.join l [32] = jn l := by
  match l with
  | [] => rfl
  | [a] => simp [Lib.join_one, jn]
  | a :: b :: l =>
    have ih := join_jn (b :: l)
    have e : Lib.join (a :: b :: l) [32] = a ++ [32] ++ Lib.join (b :: l) [32] := by simp [Lib.join, List.intercalate, List.intersperse]
    rw [e, ih]
    simp [jn]
theorem Join_holds : Holds k_Join := extFor_below (C := cfg []) (fn := Tryz.f24) (t := 9) (k := .str) Tryz.func24 rfl (by kernel_rfl) (by kernel_rfl) (by simp) fun aa hp r h => by
  simp only [k_Join] at h
  split at h
  case h_2 => cases h
  rename_i xs sep
  obtain ⟨g, rfl⟩ := xo h
  rw [Bool.and_eq_true] at g
  obtain ⟨g1, g2⟩ := g
  have g1 := Nat.le_of_ble_eq_true g1
  rw [Bool.and_eq_true] at g2
  obtain ⟨g2, g3⟩ := g2
  have g2 := Nat.le_of_ble_eq_true g2
  have g3 : bl sep = [32] := by simpa using g3
  refine ⟨_, rfl, rfl, ⟨_, rfl⟩, fun w fz ρ vs ha => ⟨.string (mk (jn (dSs xs))), fun _ => .str _, ?_⟩⟩
  match hv : vs.toList, ha with
  | [a, b], ha =>
    simp only [RepDs, RepD] at ha
    obtain ⟨h1, h2, _⟩ := ha
    rw [arr2 hv, rep_str h2]
    obtain ⟨A, n, c, rfl, e1, e2, e3⟩ := strs_cells (C := cfg []) kinds9 h1
    subst e1
    by_cases hx : xs = []
    · subst hx
      refine (Tryz.strings_Join_none A c sep w).mono ?_
      rintro e w' ⟨rfl, rfl⟩
      exact ⟨rfl, Go.RowKit.Below.refl _ _⟩
    · obtain ⟨bk, o, rfl, hb, hc⟩ := e3 hx
      have ej : Lib.join ((xs.map (cT 0)).map (·.data.toList)) sep.data.toList = jn (dSs xs) := by
        have e3 : sep.data.toList = [32] := g3
        rw [List.map_map, e3]
        exact join_jn _
      have hj := Tryz.strings_Join bk o c (xs.map (cT 0)) sep w hc hb (by rw [List.length_map]; omega) (by simpa using e2) (by rw [ej]; omega)
      rw [List.length_map, ej] at hj
      refine hj.mono ?_
      rintro e w' ⟨rfl, hbel⟩
      exact ⟨rfl, hbel⟩

theorem splitK_spl (c : UInt8) : ∀ (l : List UInt8), Lib.splitK [c] 0 (Lib.count l [c]) l = spl c l
  | [] => by
    rw [Lib.count_miss (by rfl)]
    rfl
  | x :: l => by
    have ih := splitK_spl c l
    by_cases h : x = c
    · subst h
      have hi := index_eq' x l
      rw [Lib.count_hit (i := 0) (by simp) hi]
      simp only [Nat.zero_add, List.length_singleton, List.drop_succ_cons, List.drop_zero]
      rw [Nat.add_comm 1, Lib.splitK, hi, spl, if_pos rfl]
      simp [ih]
    · have hi := index_ne x c l h
      rw [spl, if_neg h]
      by_cases hm : Lib.index l [c] = -1
      · rw [if_pos hm] at hi
        rw [Lib.count_miss hm] at ih
        rw [Lib.count_miss hi, Lib.splitK, ← ih, Lib.splitK]
      · rw [if_neg hm] at hi
        obtain ⟨i, hi'⟩ : ∃ i : Nat, Lib.index l [c] = i := by
          have := Lib.index_ge l [c]
          exact ⟨(Lib.index l [c]).toNat, by omega⟩
        rw [hi'] at hi
        have hi2 : Lib.index (x :: l) [c] = ((i + 1 : Nat) : Int) := by omega
        rw [Lib.count_hit (by simp) hi2, Nat.add_comm 1, Lib.splitK, hi2]
        rw [Lib.count_hit (by simp) hi', Nat.add_comm 1, Lib.splitK, hi'] at ih
        have e1 : ((((i + 1 : Nat) : Int)) == -1) = false := by simp; omega
        have e2 : (((i : Nat) : Int) == -1) = false := by simp
        simp only [e1, e2, Bool.false_eq_true, if_false, Int.toNat_natCast, Nat.add_zero, List.length_singleton] at ih ⊢
        rw [← ih]
        simp only [List.take_succ_cons, List.drop_succ_cons]
theorem split_ext {C : Cfg} {fn : Func} (hf : C.P.funcs[(18 : Nat)]? = some fn) (hr : fn.resultTypes = #[36]) (hk36 : kinds C.P 36 = [.sl 9]) (hag : isAggT C.P 36 = false) (hk9 : kinds C.P 9 = [.str]) (ho : C.own 18 = false)
    (hm : ∀ (w : World) (S : Nat → Prop), Tabs C w S → ∃ m, w.cell? ⟨0, 0, none⟩ = some (.int .i64 m))
    (c : ∀ (s sep : ByteArray) (m : Int) (w : World), s.size < 4294967281 → w.cell? ⟨0, 0, none⟩ = some (.int .i64 m) → 1 ≤ sep.size → Calls C.P 18 #[.string s, .string sep] w fun e w' =>
      e = .returned (.slice (some ⟨w.heap.size, 0, none⟩) (Lib.countB s sep + 1) (Lib.countB s sep + 1)) ∧ w' = w.alloc (.cells ((Lib.splitB sep 0 (Lib.countB s sep) s).map Value.string).toArray 9)) : ExtFor C 18 k_Split.2 := by
  intro aa hp r hs w fz ρ S vs hT H hargs
  simp only [k_Split] at hs
  split at hs
  case h_2 => cases hs
  rename_i s sep
  obtain ⟨hg, rfl⟩ := xo hs
  rw [Bool.and_eq_true] at hg
  have h1 := Nat.le_of_ble_eq_true hg.1
  have h2 : sep.size = 1 := by simpa using hg.2
  obtain ⟨m, hcm⟩ := hm w S hT
  rw [args_ss hargs]
  refine (c s sep m w (by omega) hcm (by omega)).mono ?_
  rintro e w' ⟨rfl, rfl⟩
  have hn := Lib.splitB_all sep (by omega) 0 _ s rfl
  have hd := Lib.splitB_data sep 0 (Lib.countB s sep) s
  obtain ⟨ch, hch⟩ : ∃ ch, bl sep = [ch] := by
    have : (bl sep).length = 1 := (bl_size sep).trans h2
    match hb : bl sep, this with
    | [x], _ => exact ⟨x, rfl⟩
  have hc : Lib.countB s sep = Lib.count (bl s) [ch] := by
    show Lib.count (bl s) (bl sep) = _
    rw [hch]
  have hd' : (Lib.splitB sep 0 (Lib.countB s sep) s).map bl = spl ch (bl s) := by
    rw [← splitK_spl, ← hc, ← hch]
    exact hd
  generalize Lib.splitB sep 0 (Lib.countB s sep) s = ps at *
  have hxs : eSs (spl ch (bl s)) = ps.map fun p => [L.str p] := by
    rw [← hd']
    unfold eSs
    rw [List.map_map]
    rfl
  rw [hch]
  simp only [List.getD_cons_zero, hxs]
  have hfl : (ps.map fun p => [L.str p]).flatten = ps.map L.str := by
    clear hd hd' hxs hn
    induction ps with
    | nil => rfl
    | cons p ps ih => rw [List.map_cons, List.flatten_cons, ih]; rfl
  let w' := w.alloc (.cells (ps.map Value.string).toArray 9)
  have hold : ∀ k, k < w.heap.size → w'.heap[k]? = w.heap[k]? := fun k hk => heap_alloc_old w _ hk
  have hnew : w'.heap[w.heap.size]? = some (.cells (ps.map Value.string).toArray 9 (0, 0)) := heap_alloc_new w _
  have hsz : w'.heap.size = w.heap.size + 1 := by simp [w']
  let fz' : Fz := fun g o => fz g o ∨ g = w.heap.size
  have hcell : ∀ (k : Nat) l, (ps.map L.str)[k]? = some l → ∃ p, ps[k]? = some p ∧ l = .str p := by
    intro k l hl
    rw [List.getElem?_map, Option.map_eq_some_iff] at hl
    obtain ⟨p, h1, h2⟩ := hl
    exact ⟨p, h1, h2.symm⟩
  refine ⟨_, fz', rfl, ⟨rfl, rfl, rfl, by show w.heap.size ≤ w'.heap.size; rw [hsz]; omega, fun k hk _ => hold k hk, fz_cell H.lt hold, ⟨fun g o h => .inl h, fun g o h => h.imp id fun e => .inr (Nat.le_of_eq e.symm)⟩⟩, fun g o h => ?_, fn, [.slice (some ⟨w.heap.size, 0, none⟩) (Lib.countB s sep + 1) (Lib.countB s sep + 1)], [.slice (some ⟨w.heap.size, 0, none⟩) (Lib.countB s sep + 1) (Lib.countB s sep + 1)], [], [], [], hf, rfl, ?_, ?_, ?_, by simp, by simp⟩
  · show g < w'.heap.size
    rw [hsz]
    rcases h with h | h
    · have := H.lt g o h
      omega
    · have h' : g = w.heap.size := h
      omega
  · rw [hr]
    exact ⟨[.slice (some ⟨w.heap.size, 0, none⟩) (Lib.countB s sep + 1) (Lib.countB s sep + 1)], [], rfl, by rw [hk36]; rfl, by rw [hk36]; decide, by rw [hag]; rfl, rfl⟩
  · rw [hr]
    simp only [List.flatMap_cons, List.flatMap_nil, hk36, List.append_nil, Bk, ho, Bool.false_eq_true, if_false]
    refine ⟨⟨_, rfl⟩, .lst _ _ _ 9 _ (fun k => .string (ps.getD k ByteArray.empty)) ⟨w.heap.size, 0, none⟩ ?_ (Nat.le_refl _) ?_ (fun _ => rfl) ?_ ?_ ?_, trivial⟩
    · rw [List.length_map, hn]
    · intro e he
      obtain ⟨p, _, rfl⟩ := List.mem_map.1 he
      unfold Conf
      rw [hk9]
      exact ⟨⟨p, rfl⟩, trivial⟩
    · intro k l hl
      rw [hfl] at hl
      obtain ⟨p, hp, rfl⟩ := hcell k l hl
      rw [add_zero', cell_box hnew]
      simp [List.getD, hp]
    · intro k l hl
      rw [add_zero']
      exact .inr rfl
    · intro k l hl
      rw [hfl] at hl
      obtain ⟨p, hp, rfl⟩ := hcell k l hl
      have : ps.getD k ByteArray.empty = p := by simp [List.getD, hp]
      rw [this]
      exact .str p
  · exact ⟨rfl, rfl⟩
theorem rt18 : Tryz.f18.resultTypes = #[36] := by kernel_rfl
theorem kinds36 : kinds (cfg []).P 36 = [.sl 9] := by kernel_rfl
theorem agg36 : isAggT (cfg []).P 36 = false := by kernel_rfl
theorem Split_holds : Holds k_Split := split_ext (C := cfg []) Tryz.func18 rt18 kinds36 agg36 kinds9 rfl maxlen_c (fun s sep m w h1 h2 h3 => Tryz.strings_Split s sep m w h1 h2 h3)

theorem contains_10 : ∀ l : W, Lib.contains l [10] = l.contains 10
  | [] => rfl
  | x :: l => by
    have ih := contains_10 l
    unfold Lib.contains at ih ⊢
    by_cases h : x = 10
    · subst h
      rw [index_eq']
      simp
    · rw [index_ne x 10 l h]
      have hge := Lib.index_ge l [10]
      have hb : ((10 : UInt8) == x) = false := by simpa using fun e : (10 : UInt8) = x => h e.symm
      rw [List.contains_cons, hb, Bool.false_or, ← ih]
      by_cases hm : Lib.index l [10] = -1
      · rw [if_pos hm, hm]
      · rw [if_neg hm]
        exact decide_eq_decide.2 ⟨fun _ => by omega, fun _ => by omega⟩
theorem Cont_ext {C : Cfg} {fn : Func} (hf : C.P.funcs[(33 : Nat)]? = some fn) (hr : fn.resultTypes = #[4]) (hk4 : kinds C.P 4 = [.bool]) (ha4 : isAggT C.P 4 = false)
    (hm : ∀ (w : World) (S : Nat → Prop), Tabs C w S → ∃ m, w.cell? ⟨0, 0, none⟩ = some (.int .i64 m))
    (c : ∀ (s sub : ByteArray) (m : Int) (w : World), s.size < 4294967281 → w.cell? ⟨0, 0, none⟩ = some (.int .i64 m) → Calls C.P 33 #[.string s, .string sub] w fun e w' => e = .returned (.bool (Lib.contains s.data.toList sub.data.toList)) ∧ w' = w) : ExtFor C 33 k_Cont.2 := by
  intro aa hp r hs w fz ρ S vs hT H hargs
  simp only [k_Cont] at hs
  split at hs
  case h_2 => cases hs
  rename_i s sep
  obtain ⟨hg, rfl⟩ := xo hs
  rw [Bool.and_eq_true] at hg
  have h1 := Nat.le_of_ble_eq_true hg.1
  have h2 : bl sep = [10] := by simpa using hg.2
  obtain ⟨m, hcm⟩ := hm w S hT
  rw [args_ss hargs]
  refine (c s sep m w (by omega) hcm).mono ?_
  rintro e w' ⟨rfl, rfl⟩
  have e1 : Lib.contains s.data.toList sep.data.toList = (bl s).contains 10 := by
    have e3 : sep.data.toList = [10] := h2
    rw [e3]
    exact contains_10 _
  rw [e1]
  exact ⟨_, fz, rfl, endOk_plain H.lt hf hr hk4 ha4 (by simp) ⟨_, rfl⟩ (.bool _)⟩
theorem rt33 : Tryz.f33.resultTypes = #[4] := by kernel_rfl
theorem Cont_holds : Holds k_Cont := Cont_ext (C := cfg []) Tryz.func33 rt33 kinds4 agg4 maxlen_c (fun s sub m w h1 h2 => Tryz.strings_Contains s sub m w h1 h2)
theorem pquote_holds : Holds k_pquote := extFor_below (C := cfg []) (fn := Tryz.f32) (t := 9) (k := .str) Tryz.func32 (by kernel_rfl) kinds9 agg9 (by simp) fun aa hp r h => by
  simp only [k_pquote, conT] at h
  split at h
  case h_2 => cases h
  rename_i s
  obtain ⟨g, rfl⟩ := xo h
  refine ⟨_, rfl, rfl, ⟨_, rfl⟩, fun w fz ρ vs ha => ⟨.string (mk (qt (bl s))), fun _ => .str _, ?_⟩⟩
  match hv : vs.toList, ha with
  | [a], ha =>
    simp only [RepDs, RepD] at ha
    rw [arr1 hv, rep_str ha.1]
    refine (rQuote s w (by have := sm_of g; rw [bl_size] at this; exact this)).mono ?_
    rintro e w' ⟨rfl, hb⟩
    exact ⟨rfl, hb⟩
end Go.Ab
namespace Go.Ab
open Go.Proofs

theorem nb {n m : Nat} (h : n ≤ m) : Nat.ble n m = true := Nat.ble_eq_true_of_le h
theorem add_holds : Holds k_add := con_run (xs := []) hold0 fun aa hp r h => by
  split at h
  case h_2 => cases h
  rename_i xs ls
  obtain ⟨g, rfl⟩ := xo h
  rw [Bool.and_eq_true] at g
  have g1 := sm_of g.1
  have g2 := Nat.le_of_ble_eq_true g.2
  refine Runs.by (padd_e · _ _) ?_
  rw [roomN_t (by omega) (by omega)]
  exact .ret
theorem num_holds : Holds k_num := con_run (xs := [k_add, k_Itoa]) (hold1 add_holds (hold1 Itoa_holds hold0)) fun aa hp r h => by
  split at h
  case h_4 => cases h
  · rename_i a ls
    obtain ⟨g, rfl⟩ := xo h
    simp only [Bool.and_eq_true] at g
    have g2 := Nat.le_of_ble_eq_true g.2
    refine Runs.by (pnum1_e · _ _) ?_
    rw [dupN_eq, g.1, nb (show ls.length ≤ 100000000 by omega)]
    exact .ret
  · rename_i a b ls
    obtain ⟨g, rfl⟩ := xo h
    simp only [Bool.and_eq_true] at g
    have g2 := Nat.le_of_ble_eq_true g.2
    refine Runs.by (pnum2_e · _ _ _) ?_
    simp only [dupN_eq, g.1.1, g.1.2, List.length_append, List.length_cons, List.length_nil, nb (show ls.length ≤ 100000000 by omega), nb (show ls.length + (0 + 1) ≤ 100000000 by omega)]
    exact .ret' (by simp [nmR, eSs, eS1])
  · rename_i a b c ls
    obtain ⟨g, rfl⟩ := xo h
    simp only [Bool.and_eq_true] at g
    have g2 := Nat.le_of_ble_eq_true g.2
    refine Runs.by (pnum3_e · _ _ _ _) ?_
    simp only [dupN_eq, g.1.1, g.1.2, List.length_append, List.length_cons, List.length_nil, nb (show ls.length ≤ 100000000 by omega), nb (show ls.length + (0 + 1) ≤ 100000000 by omega), nb (show ls.length + (0 + 1) + (0 + 1) ≤ 100000000 by omega)]
    exact .ret' (by simp [nmR, eSs, eS1])

/-! ### lengths of lines -/
theorem jn_cons (a : W) (l : List W) : jn (a :: l) = a ++ l.flatMap fun w => 32 :: w := rfl
theorem tl_len (l : List W) : (l.flatMap fun w => (32 : UInt8) :: w).length = (l.map fun w => w.length + 1).sum := by
  induction l with
  | nil => rfl
  | cons a l ih => simp only [List.flatMap_cons, List.length_append, List.length_cons, List.map_cons, List.sum_cons, ih]
/-- Of a text at least as long as its words. -/
def wl (l : List W) : Nat := (l.map fun w => w.length + 1).sum
theorem wl_cons (a : W) (l : List W) : wl (a :: l) = a.length + 1 + wl l := by unfold wl; simp
theorem wl_app (l m : List W) : wl (l ++ m) = wl l + wl m := by unfold wl; simp
theorem wl_nil : wl [] = 0 := rfl
theorem wl_jn (l : List W) : wl l ≤ (jn l).length + 1 := by
  cases l with
  | nil => simp [wl]
  | cons a l =>
    rw [jn_cons, List.length_append, tl_len, wl_cons]
    unfold wl; omega
theorem jn_wl (l : List W) : (jn l).length ≤ wl l := by
  cases l with
  | nil => simp [wl, jn]
  | cons a l =>
    rw [jn_cons, List.length_append, tl_len, wl_cons]
    unfold wl; omega
theorem len_wl (l : List W) : l.length ≤ wl l := by
  induction l with
  | nil => simp
  | cons a l ih => rw [wl_cons, List.length_cons]; omega
theorem qt_len (s : W) : s.length + 2 ≤ (qt s).length := by
  unfold qt
  have := qB_len s
  simp; omega
theorem mem_wl {a : W} {l : List W} (h : a ∈ l) : a.length + 1 ≤ wl l := by
  induction l with
  | nil => cases h
  | cons b l ih =>
    rw [wl_cons]
    rcases List.mem_cons.1 h with rfl | h
    · omega
    · have := ih h; omega
theorem fm_cons {α : Type} (f : α → List W) (x : α) (l : List α) : (x :: l).flatMap f = f x ++ l.flatMap f := List.flatMap_cons ..
noncomputable abbrev ck : Cfg := cfg [k_add, k_num, k_pquote]
theorem eSs_app (a b : List W) : eSs a ++ eSs b = eSs (a ++ b) := (List.map_append ..).symm
theorem app_eSs (ls : List (List L)) (a b : List W) : ls ++ eSs a ++ eSs b = ls ++ eSs (a ++ b) := by rw [List.append_assoc, eSs_app]

theorem l16 (ws : List Wr) (hl : ws.length ≤ 1000000) : ∀ (m i : Nat) (ls : List (List L)), i + m = ws.length → ls.length ≤ 10000000 → wl ((ws.drop i).flatMap wW) ≤ 1000001 → ls.length + wl ((ws.drop i).flatMap wW) ≤ 10000000 →
    Runs ck (listed_q16 (eWs ws) (ws.length : Nat) (i : Nat) ls) [.lst 9 (ls ++ eSs ((ws.drop i).flatMap wW)), .any]
  | 0, i, ls, h, h1, h2, h3 => by
    refine Runs.by (listed_p16 · _ _ _ _) ?_
    rw [drop_end (l := ws) (by omega)]
    simp (disch := omega) only [ev_lt_f, cond_false]
    exact .ret' (by simp [eSs])
  | m + 1, i, ls, h, h1, h2, h3 => by
    have hi : i < ws.length := by omega
    rw [drop_at ([], [], false) hi, fm_cons, wl_app] at h2 h3
    rw [drop_at ([], [], false) hi, fm_cons]
    have ha : atL (eWs ws) (i : Int) = eW1 (ws.getD i ([], [], false)) := atL_map _ ws i _ hi
    refine Runs.by (listed_p16 · _ _ _ _) ?_
    simp (disch := omega) only [ha, eWs_len, ev_lt_t, ev_le_t, Bool.and_self, cond_true, w64, dupN_eq, nb (show ls.length ≤ 100000000 by omega), Bool.and_true]
    generalize ws.getD i ([], [], false) = x at *
    obtain ⟨p, t, gone⟩ := x
    cases gone
    · have hw : wW (p, t, false) = [wPut, p, qt t] := rfl
      rw [hw, wl_cons, wl_cons, wl_cons, wl_nil] at h2 h3
      have hq := qt_len t
      have ih := l16 ws hl m (i + 1) (ls ++ eSs [wPut, p, qt t]) (by omega) (by simp [eSs]; omega) (by omega) (by simp [eSs]; omega)
      rw [app_eSs] at ih
      show RunsF _ (fun G => cond (sm t.length) _ none) _
      rw [sm_t (show t.length ≤ 1000000 by omega), hw]
      exact .go ih
    · have hw : wW (p, t, true) = [wDel, p] := rfl
      rw [hw, wl_cons, wl_cons, wl_nil] at h2 h3
      have ih := l16 ws hl m (i + 1) (ls ++ eSs [wDel, p]) (by omega) (by simp [eSs]; omega) (by omega) (by simp [eSs]; omega)
      rw [app_eSs] at ih
      rw [hw]
      exact .go ih
theorem l31 (gs : List W) (hl : gs.length ≤ 1000000) : ∀ (m i : Nat) (ls : List (List L)), i + m = gs.length → ls.length + wl ((gs.drop i).flatMap fun g => [wGroup, g]) ≤ 10000000 →
    Runs ck (listed_q31 (eSs gs) (gs.length : Nat) (i : Nat) ls) [.lst 9 (ls ++ eSs ((gs.drop i).flatMap fun g => [wGroup, g])), .any]
  | 0, i, ls, h, h3 => by
    refine Runs.by (listed_p31 · _ _ _ _) ?_
    rw [drop_end (l := gs) (by omega)]
    simp (disch := omega) only [ev_lt_f, cond_false]
    exact .ret' (by simp [eSs])
  | m + 1, i, ls, h, h3 => by
    have hi : i < gs.length := by omega
    rw [drop_at [] hi, fm_cons, wl_app, wl_cons, wl_cons, wl_nil] at h3
    rw [drop_at [] hi, fm_cons]
    have ha : atL (eSs gs) (i : Int) = eS1 (gs.getD i []) := atL_map _ gs i _ hi
    refine Runs.by (listed_p31 · _ _ _ _) ?_
    simp (disch := omega) only [ha, eSs_len, ev_lt_t, ev_le_t, Bool.and_self, cond_true, w64, nb (show ls.length ≤ 100000000 by omega), Bool.and_true]
    have ih := l31 gs hl m (i + 1) (ls ++ eSs [wGroup, gs.getD i []]) (by omega) (by simp only [eSs, List.length_append, List.length_map, List.length_cons, List.length_nil]; omega)
    rw [app_eSs] at ih
    exact .go ih
theorem l25 (k : Int) (a1 a2 a3 : ByteArray) (a4 a5 a6 a7 : Int) (a8 a9 : ByteArray) (us : List Int) (gs : List W) (rs ws : List (List L)) (hl : us.length ≤ 1000000) (hl2 : gs.length ≤ 1000000) (hu : us.all i64B = true) : ∀ (m i : Nat) (ls : List (List L)), i + m = us.length →
    ls.length + wl ((us.drop i).flatMap (fun u => [wUser, it u]) ++ gs.flatMap fun g => [wGroup, g]) ≤ 10000000 - 1000 →
    Runs ck (listed_q25 (eIs us) (us.length : Nat) (i : Nat) k a1 a2 a3 a4 a5 a6 a7 a8 a9 (eIs us) (eSs gs) rs ws ls) [.lst 9 (ls ++ eSs ((us.drop i).flatMap (fun u => [wUser, it u]) ++ gs.flatMap fun g => [wGroup, g])), .any]
  | 0, i, ls, h, h3 => by
    refine Runs.by (listed_p25 · _ _ _ _ _ _ _ _ _ _ _ _ _ _ _ _ _ _) ?_
    rw [drop_end (l := us) (by omega)] at h3 ⊢
    have := l31 gs hl2 gs.length 0 ls (Nat.zero_add _) (by rw [List.drop_zero]; simp only [List.flatMap_nil, List.nil_append] at h3; omega)
    rw [List.drop_zero] at this
    simp (disch := omega) only [ev_lt_f, cond_false, eSs_len]
    exact .go this
  | m + 1, i, ls, h, h3 => by
    have hi : i < us.length := by omega
    rw [drop_at 0 hi, fm_cons, List.append_assoc, wl_app, wl_cons, wl_cons, wl_nil] at h3
    rw [drop_at 0 hi, fm_cons]
    have ha : atL (eIs us) (i : Int) = eI1 (us.getD i 0) := atL_map _ us i _ hi
    have hm : us.getD i 0 ∈ us := by simp [List.getD, List.getElem?_eq_getElem hi]
    have hb := List.all_eq_true.1 hu _ hm
    refine Runs.by (listed_p25 · _ _ _ _ _ _ _ _ _ _ _ _ _ _ _ _ _ _) ?_
    have e0 : cI 0 (eI1 (us.getD i 0)) = us.getD i 0 := rfl
    simp (disch := omega) only [ha, e0, hb, eIs_len, ev_lt_t, ev_le_t, Bool.and_self, cond_true, w64, nb (show ls.length ≤ 100000000 by omega), List.length_append, List.length_cons, List.length_nil, nb (show ls.length + (0 + 1) ≤ 10000000 by omega)]
    have ih := l25 k a1 a2 a3 a4 a5 a6 a7 a8 a9 us gs rs ws hl hl2 hu m (i + 1) (ls ++ eSs [wUser, it (us.getD i 0)]) (by omega) (by simp only [eSs, List.length_append, List.length_map, List.length_cons, List.length_nil]; omega)
    rw [app_eSs] at ih
    rw [show ls ++ [[L.str (mk [117, 115, 101, 114])]] ++ eSs (List.map it [us.getD i 0]) = ls ++ eSs [wUser, it (us.getD i 0)] from by simp [eSs, eS1], List.append_assoc]
    exact .go ih
/-- One rule is written, whatever follows. -/
theorem rule_runs (x : Ru) (ls : List (List L)) (Q : List (List L) → Req) (T : List L) (hl : ls.length ≤ 100000000) (h : Runs ck (Q (ls ++ eSs (wR x))) T) :
    RunsF ck (fun G => cond (cO 0 (eR1 x))
      (cond (bl (cT 2 (eR1 x)) == bl (mk []))
       (cond (sm 4 && Nat.ble ls.length 100000000) (G (Q (ls ++ [[L.str (mk [97, 108, 108, 111, 119])], [L.str (cT 1 (eR1 x))], [L.str (mk [45])], [L.str (cT 3 (eR1 x))]]))) none)
       (cond (sm 4 && Nat.ble ls.length 100000000) (G (Q (ls ++ [[L.str (mk [97, 108, 108, 111, 119])], [L.str (cT 1 (eR1 x))], [L.str (cT 2 (eR1 x))], [L.str (cT 3 (eR1 x))]]))) none))
      (cond (bl (cT 2 (eR1 x)) == bl (mk []))
       (cond (sm 4 && Nat.ble ls.length 100000000) (G (Q (ls ++ [[L.str (mk [100, 101, 110, 121])], [L.str (cT 1 (eR1 x))], [L.str (mk [45])], [L.str (cT 3 (eR1 x))]]))) none)
       (cond (sm 4 && Nat.ble ls.length 100000000) (G (Q (ls ++ [[L.str (mk [100, 101, 110, 121])], [L.str (cT 1 (eR1 x))], [L.str (cT 2 (eR1 x))], [L.str (cT 3 (eR1 x))]]))) none))) T := by
  obtain ⟨a, g, r, gl⟩ := x
  rw [nb hl]
  have e2 : (bl (cT 2 (eR1 (a, g, r, gl))) == bl (mk [])) = r.isEmpty := beq_nil r
  rw [e2]
  cases a
  · cases hr : r.isEmpty
    · have e : wR (false, g, r, gl) = [wDeny, g, r, gl] := by unfold wR rq; rw [hr]; rfl
      rw [e] at h
      exact .go h
    · have e : wR (false, g, r, gl) = [wDeny, g, [45], gl] := by unfold wR rq; rw [hr]; rfl
      rw [e] at h
      exact .go h
  · cases hr : r.isEmpty
    · have e : wR (true, g, r, gl) = [wAllow, g, r, gl] := by unfold wR rq; rw [hr]; rfl
      rw [e] at h
      exact .go h
    · have e : wR (true, g, r, gl) = [wAllow, g, [45], gl] := by unfold wR rq; rw [hr]; rfl
      rw [e] at h
      exact .go h
theorem wR_len (x : Ru) : (wR x).length = 4 := rfl
theorem l11 (rs : List Ru) (hl : rs.length ≤ 2000000) : ∀ (m i : Nat) (ls : List (List L)), i + 1 + m = rs.length → ls.length + 4 * m ≤ 100000000 →
    Runs ck (listed_q11 (eRs rs) (rs.length : Nat) (i : Nat) ls) [.lst 9 (ls ++ eSs ((rs.drop (i + 1)).flatMap wR)), .any]
  | 0, i, ls, h, h3 => by
    refine Runs.by (listed_p11 · _ _ _ _) ?_
    rw [drop_end (l := rs) (by omega)]
    simp (disch := omega) only [w64, ev_lt_f, cond_false]
    exact .ret' (by simp [eSs])
  | m + 1, i, ls, h, h3 => by
    have hi : i + 1 < rs.length := by omega
    rw [drop_at (false, [], [], []) hi, fm_cons]
    have ha : atL (eRs rs) ((i : Int) + 1) = eR1 (rs.getD (i + 1) (false, [], [], [])) := atL_map _ rs (i + 1) _ hi
    refine Runs.by (listed_p11 · _ _ _ _) ?_
    have ih := l11 rs hl m (i + 1) (ls ++ eSs (wR (rs.getD (i + 1) (false, [], [], [])))) (by omega) (by simp only [eSs, List.length_append, List.length_map, wR_len]; omega)
    rw [app_eSs] at ih
    simp (disch := omega) only [w64, ha, eRs_len, ev_lt_t, ev_le_t, Bool.and_self, cond_true]
    exact rule_runs _ ls (fun l => listed_q11 (eRs rs) (rs.length : Nat) ((i : Int) + 1) l) _ (by omega) ih
theorem fm_len {α : Type} (f : α → List W) (c : Nat) (hf : ∀ x, c ≤ wl (f x)) (l : List α) : c * l.length ≤ wl (l.flatMap f) := by
  induction l with
  | nil => exact Nat.zero_le _
  | cons a l ih =>
    rw [fm_cons, wl_app, List.length_cons, Nat.mul_succ]
    have := hf a; omega
theorem wW_wl (x : Wr) : 1 ≤ wl (wW x) := by
  obtain ⟨p, t, g⟩ := x
  cases g
  · show 1 ≤ wl [wPut, p, qt t]; simp [wl_cons]; omega
  · show 1 ≤ wl [wDel, p]; simp [wl_cons]; omega
theorem wR_wl (x : Ru) : 1 ≤ wl (wR x) := by show 1 ≤ wl [_, _, _, _]; simp [wl_cons]; omega
theorem listed_runs (e : Ev) (ls : List (List L)) (gI : okI e = true) (g1 : (jn (lsw e)).length ≤ 1000000) (g2 : ls.length ≤ 1000000) :
    Runs ck (.enter 31 [.agg (encE e), .lf (.clo 29 [.ptr 0 0]), .lf (.clo 30 [.ptr 1 0])] [.box [.sl 9] [.row 2], .box [.oth] [.clo 29 [.ptr 0 0]], .row 9 ls true]) [.lst 9 (ls ++ eSs (lsw e)), .any] := by
  have hw := wl_jn (lsw e)
  obtain ⟨k, a1, a2, a3, a4, a5, a6, a7, a8, a9, us, gs, rs, ws⟩ := e
  unfold okI at gI
  simp only [Bool.and_eq_true] at gI
  obtain ⟨⟨i4, i5, i6, i7⟩, iu⟩ := gI
  refine Runs.by (listed_e · _ _ _ _ _ _ _ _ _ _ _ _ _ _ _) ?_
  unfold lsw at hw g1 ⊢
  dsimp only at hw g1 ⊢
  have n1 := nb (show ls.length ≤ 100000000 by omega)
  rw [n1]
  refine RunsF.cond (fun hk => ?_) (fun hk => ?_)
  · rw [hk, cond_true] at hw g1 ⊢
    rw [wl_app, wl_cons, wl_cons, wl_cons] at hw
    have h0 := fm_len wW 1 wW_wl ws
    have := l16 ws (by omega) ws.length 0 (ls ++ eSs [a1, a2, it a4]) (Nat.zero_add _) (by simp [eSs]; omega) (by rw [List.drop_zero]; omega) (by rw [List.drop_zero]; simp [eSs]; omega)
    rw [List.drop_zero, app_eSs] at this
    simp only [i4, List.length_append, List.length_cons, List.length_nil, nb (show ls.length + (0 + 1 + 1) ≤ 10000000 by omega), Bool.and_self, cond_true, eWs_len]
    rw [show ls ++ [[L.str (mk a1)], [L.str (mk a2)]] ++ eSs (List.map it [a4]) = ls ++ eSs [a1, a2, it a4] from by simp [eSs, eS1]]
    exact .go this
  · rw [hk, cond_false] at hw g1 ⊢
    refine RunsF.cond (fun hk => ?_) (fun hk => ?_)
    · rw [hk, cond_true] at hw g1 ⊢
      unfold wG at hw g1 ⊢
      dsimp only at hw g1 ⊢
      rw [wl_cons, wl_app] at hw
      have h1 := fm_len (fun u => [wUser, it u]) 1 (fun x => by show 1 ≤ wl [_, _]; simp [wl_cons]; omega) us
      have h2 := fm_len (fun g => [wGroup, g]) 1 (fun x => by show 1 ≤ wl [_, _]; simp [wl_cons]; omega) gs
      have := l25 k (mk a1) (mk a2) (mk a3) a4 a5 a6 a7 (mk a8) (mk a9) us gs (eRs rs) (eWs ws) (by omega) (by omega) iu us.length 0 (ls ++ eSs [a9]) (Nat.zero_add _) (by rw [List.drop_zero, wl_app]; simp only [eSs, List.length_append, List.length_map, List.length_cons, List.length_nil]; omega)
      rw [List.drop_zero, app_eSs] at this
      rw [eIs_len]
      exact .go this
    · rw [hk, cond_false] at hw g1 ⊢
      have h0 := fm_len wR 1 wR_wl rs
      rw [eRs_len]
      cases rs with
      | nil => exact .ret' (by simp [eSs])
      | cons x rs =>
        have ha : atL (eRs (x :: rs)) 0 = eR1 x := atL_map _ (x :: rs) 0 x (by simp)
        rw [ev_lt_t (by simp only [List.length_cons]; omega), ha]
        simp only [List.length_cons] at h0
        have := l11 (x :: rs) (by simp only [List.length_cons]; omega) rs.length 0 (ls ++ eSs (wR x)) (by simp only [List.length_cons]; omega) (by simp only [eSs, List.length_append, List.length_map, wR_len]; omega)
        rw [app_eSs] at this
        have e := rule_runs x ls (fun l => listed_q11 (eRs (x :: rs)) ((x :: rs).length : Nat) 0 l) _ (by omega) this
        rw [nb (show ls.length ≤ 100000000 by omega)] at e
        exact e
theorem listed_holds : Holds k_listed := con_run (xs := [k_add, k_num, k_pquote]) (hold1 add_holds (hold1 num_holds (hold1 pquote_holds hold0))) fun aa hp r h => by
  split at h
  case h_2 => cases h
  rename_i k a1 a2 a3 a4 a5 a6 a7 a8 a9 us gs rs ws ls
  obtain ⟨g, rfl⟩ := xo h
  simp only [Bool.and_eq_true] at g
  obtain ⟨g0, g1, g2, g3⟩ := g
  obtain ⟨a, b, c, d, rfl, rfl, rfl, rfl⟩ := isLs_of g0
  rw [dIs_e, dSs_e, dRs_e, dWs_e] at g1 g2 ⊢
  exact listed_runs _ ls g1 (sm_of g2) (sm_of g3)
end Go.Ab
namespace Go.Ab
open Go.Proofs
/-- Of a number, by how many digits it may have. -/
def gNum (m : Nat) (n : Int) : Bool := i64B n && decide (0 < m ∧ n.natAbs < 10 ^ m)
def k_Number (m : Nat) : Nat × Con := (n_codesearchref54_Number, fun
  | [.lf (.int .i64 n)], [] => some (gNum m n, [.str (mk (it n))])
  | _, _ => none)
def k_Num : Nat × Con := (n_codesearchref54_Number, fun
  | [.lf (.int .i64 n)], [] => some (i64B n, [.str (mk (it n))])
  | _, _ => none)
def k_rquote : Nat × Con := (n_codesearchref54_quote, conT (fun s => sm s.length) fun s => [.str (mk (qt s))])
/-- Words, each behind a blank. -/
def tw (l : List W) : W := l.flatMap fun w => 32 :: w
noncomputable def k_rrules : Nat × Con := (n_codesearchref54_rules, fun
  | [.lf (.lst 65 rs)], [] => some (isLs [] [] rs [] && sm (tw ((dRs rs).flatMap wR)).length, [.str (mk (tw ((dRs rs).flatMap wR)))])
  | _, _ => none)
def nmOf (k : Int) : W := cond (leI 1 k && leI k 22) (nmL.getD (k - 1).toNat []) []
def k_name : Nat × Con := (n_codesearchref54_name, fun
  | [.lf (.int .i64 k)], [] => some (i64B k, [.str (mk (nmOf k))])
  | _, _ => none)
/-- The arguments of an event, by its kind. -/
def tlw (e : Ev) : List W :=
  cond (e.kind == 1) (lsw e) (cond (e.kind == 2) [e.repo, e.name, e.other] (cond (e.kind == 3) [e.repo, e.name] (cond (e.kind == 4) [e.repo, e.name, e.other, it e.who] (cond (e.kind == 5) [e.repo] (cond (e.kind == 6) [it e.n] (cond (e.kind == 7) (lsw e) (cond (e.kind == 8) (lsw e)
  (cond (e.kind == 9) [it e.who, qt e.text, it e.n, it e.m, it e.k] (cond (e.kind == 10) [it e.who, qt e.text] (cond (e.kind == 11) [it e.n] (cond (e.kind == 13) [it e.who, it e.n, it e.k] (cond (e.kind == 14) [it e.n] (cond (e.kind == 15) [it e.n, it e.m] (cond (e.kind == 16) [it e.n, it e.m, it e.k] (cond (e.kind == 17) [it e.n, it e.m] (cond (e.kind == 18) [it e.n, it e.m] (cond (e.kind == 19) [it e.n, it e.m, it e.k]
  (cond (e.kind == 20) [e.repo] (cond (e.kind == 21) [it e.who, e.repo, e.name, qt e.text, qt e.other] (cond (e.kind == 22) [e.repo] []))))))))))))))))))))
noncomputable def k_tail : Nat × Con := (n_codesearchref54_tail, conE (fun e => (i64B e.kind && okI e) && sm (tw (tlw e)).length) fun e => [.str (mk (tw (tlw e)))])
end Go.Ab
namespace Go.Ab
open Go.Proofs
/-! codesearch/script.event -/
noncomputable def pevent_q7 (kind7 : Int) (h0_0 : Int) (h0_1 : ByteArray) (h0_2 : ByteArray) (h0_3 : ByteArray) (h0_4 : Int) (h0_5 : Int) (h0_6 : Int) (h0_7 : Int) (h0_8 : ByteArray) (h0_9 : ByteArray) (h1_0 : ByteArray) (h1_1 : Bool) (h2_0 : Int) (h2_1 : ByteArray) (h2_2 : ByteArray) (h2_3 : ByteArray) (h2_4 : Int) (h2_5 : Int) (h2_6 : Int) (h2_7 : Int) (h2_8 : ByteArray) (h2_9 : ByteArray) (h3 : List (List L)) (h4 : List (List L)) (h5 : List (List L)) (h6 : List (List L)) (h7 : List (List L)) (h8 : List (List L)) (h9 : List (List L)) (h10 : List (List L)) : Req := .point 19 [] (todoAt Tryz.prog 19 7) ⟨[an, an, (.lf (.ptr 0 0)), an, an, an, an, (.lf (.int IntKind.i64 kind7)), an, (.lf (.ptr 1 0)), (.lf (.ptr 2 0)), an, an, an, an, an, an, an, an, an, an, an, an, an, an, an, an, an, an, an, an, an, an, an, an, an, an, an, an, an, an, an, an, an, an, an, an, an, an, an, an, an, an, an, an, an, an, an, an, an, an, an, an, an, an, an, an, an, an, an, an, an, an, an, an, an, an, an, an, an, an, an, an, an, an, an, an, an, an, an, an, an, an, an, an, an, an, an, an, an, an, an, an, an, an, an, an, an, an, an, an, an, an, an, an, an, an, an, an, an, an, an, an, an, an, an, an, an, an, an, an, an, an, an, an, an, an, an, an, an, an, an, an, an, an, an, an, an, an, an, an, an, an, an, an, an, an, an, an, an, an, an, an, an, an, an, an, an], [(.box [(.int IntKind.i64), .str, .str, .str, (.int IntKind.i64), (.int IntKind.i64), (.int IntKind.i64), (.int IntKind.i64), .str, .str, (.sl 3), (.sl 9), (.sl 65), (.sl 51)] [(.int IntKind.i64 h0_0), (.str h0_1), (.str h0_2), (.str h0_3), (.int IntKind.i64 h0_4), (.int IntKind.i64 h0_5), (.int IntKind.i64 h0_6), (.int IntKind.i64 h0_7), (.str h0_8), (.str h0_9), (.row 3), (.row 4), (.row 5), (.row 6)]), (.box [.str, .bool] [(.str h1_0), (.bool h1_1)]), (.box [(.int IntKind.i64), .str, .str, .str, (.int IntKind.i64), (.int IntKind.i64), (.int IntKind.i64), (.int IntKind.i64), .str, .str, (.sl 3), (.sl 9), (.sl 65), (.sl 51)] [(.int IntKind.i64 h2_0), (.str h2_1), (.str h2_2), (.str h2_3), (.int IntKind.i64 h2_4), (.int IntKind.i64 h2_5), (.int IntKind.i64 h2_6), (.int IntKind.i64 h2_7), (.str h2_8), (.str h2_9), (.row 7), (.row 8), (.row 9), (.row 10)]), (.row 3 h3 true), (.row 9 h4 true), (.row 65 h5 true), (.row 51 h6 true), (.row 3 h7 true), (.row 9 h8 true), (.row 65 h9 true), (.row 51 h10 true)]⟩
theorem pevent_e (G : Req → R) (s0 : ByteArray) : runB (cfg [k_commands, k_Cut, c_pw, c_pn, c_pt, k_lists]) G (.enter 19 [(.lf (.str (s0)))] []) =
  (cond (Nat.ble (ByteArray.size s0) 1000000 && true)
   (cond (!mapHas cmdsL (mk (upB (bl s0))))
    (some [(.int IntKind.i64 (0)), (.str (mk [])), (.str (mk [])), (.str (mk [])), (.int IntKind.i64 (0)), (.int IntKind.i64 (0)), (.int IntKind.i64 (0)), (.int IntKind.i64 (0)), (.str (mk [])), (.str (mk [])), (.lst 3 []), (.lst 9 []), (.lst 65 []), (.lst 51 []), (.int IntKind.i64 (19))])
    (cond (leI 0 (↑(ByteArray.size (mk (upB (bl s0)))) : Int) && leI (↑(ByteArray.size (mk (upB (bl s0)))) : Int) (↑(ByteArray.size s0) : Int))
     (G (pevent_q7 (mapGet cmdsL (mk (upB (bl s0)))) 0 (mk []) (mk []) (mk []) 0 0 0 0 (mk []) (mk []) (ByteArray.extract s0 (Int.toNat (↑(ByteArray.size (mk (upB (bl s0)))) : Int)) (ByteArray.size s0)) false (mapGet cmdsL (mk (upB (bl s0)))) (mk []) (mk []) (mk []) 0 0 0 0 (mk []) (mk []) [] [] [] [] [] [] [] []))
     none))
   none) := by kernel_rfl
theorem pevent_p7 (G : Req → R) (kind7 : Int) (h0_0 : Int) (h0_1 : ByteArray) (h0_2 : ByteArray) (h0_3 : ByteArray) (h0_4 : Int) (h0_5 : Int) (h0_6 : Int) (h0_7 : Int) (h0_8 : ByteArray) (h0_9 : ByteArray) (h1_0 : ByteArray) (h1_1 : Bool) (h2_0 : Int) (h2_1 : ByteArray) (h2_2 : ByteArray) (h2_3 : ByteArray) (h2_4 : Int) (h2_5 : Int) (h2_6 : Int) (h2_7 : Int) (h2_8 : ByteArray) (h2_9 : ByteArray) (h3 : List (List L)) (h4 : List (List L)) (h5 : List (List L)) (h6 : List (List L)) (h7 : List (List L)) (h8 : List (List L)) (h9 : List (List L)) (h10 : List (List L)) : runB (cfg [k_commands, k_Cut, c_pw, c_pn, c_pt, k_lists]) G (pevent_q7 kind7 h0_0 h0_1 h0_2 h0_3 h0_4 h0_5 h0_6 h0_7 h0_8 h0_9 h1_0 h1_1 h2_0 h2_1 h2_2 h2_3 h2_4 h2_5 h2_6 h2_7 h2_8 h2_9 h3 h4 h5 h6 h7 h8 h9 h10) =
  (cond (kind7 == 1)
   (cond (sm (ByteArray.size h1_0) && (List.isEmpty (bl h2_1) && List.isEmpty (bl h2_2) && List.isEmpty (bl h2_3) && h2_4 == 0 && h2_5 == 0 && h2_6 == 0 && h2_7 == 0 && List.isEmpty (bl h2_8) && List.isEmpty (bl h2_9) && (List.isEmpty h7 && List.isEmpty h8 && List.isEmpty h9 && List.isEmpty h10)))
    (cond (Prod.snd (Prod.snd (ls h2_0 (bl h1_0, h1_1))))
     (some [(.int IntKind.i64 (0)), (.str (mk [])), (.str (mk [])), (.str (mk [])), (.int IntKind.i64 (0)), (.int IntKind.i64 (0)), (.int IntKind.i64 (0)), (.int IntKind.i64 (0)), (.str (mk [])), (.str (mk [])), (.lst 3 []), (.lst 9 []), (.lst 65 []), (.lst 51 []), (.int IntKind.i64 (3))])
     (cond (!bl (mk (Prod.fst (Prod.snd (ls h2_0 (bl h1_0, h1_1))))) == bl (mk []))
      (some [(.int IntKind.i64 (0)), (.str (mk [])), (.str (mk [])), (.str (mk [])), (.int IntKind.i64 (0)), (.int IntKind.i64 (0)), (.int IntKind.i64 (0)), (.int IntKind.i64 (0)), (.str (mk [])), (.str (mk [])), (.lst 3 []), (.lst 9 []), (.lst 65 []), (.lst 51 []), (.int IntKind.i64 (3))])
      (some [(.int IntKind.i64 (Ev.kind (Prod.fst (ls h2_0 (bl h1_0, h1_1))))), (.str (mk (Ev.repo (Prod.fst (ls h2_0 (bl h1_0, h1_1)))))), (.str (mk (Ev.name (Prod.fst (ls h2_0 (bl h1_0, h1_1)))))), (.str (mk (Ev.other (Prod.fst (ls h2_0 (bl h1_0, h1_1)))))), (.int IntKind.i64 (Ev.who (Prod.fst (ls h2_0 (bl h1_0, h1_1))))), (.int IntKind.i64 (Ev.n (Prod.fst (ls h2_0 (bl h1_0, h1_1))))), (.int IntKind.i64 (Ev.m (Prod.fst (ls h2_0 (bl h1_0, h1_1))))), (.int IntKind.i64 (Ev.k (Prod.fst (ls h2_0 (bl h1_0, h1_1))))), (.str (mk (Ev.text (Prod.fst (ls h2_0 (bl h1_0, h1_1)))))), (.str (mk (Ev.gname (Prod.fst (ls h2_0 (bl h1_0, h1_1)))))), (.lst 3 (eIs (Ev.users (Prod.fst (ls h2_0 (bl h1_0, h1_1)))))), (.lst 9 (eSs (Ev.groups (Prod.fst (ls h2_0 (bl h1_0, h1_1)))))), (.lst 65 (eRs (Ev.rules (Prod.fst (ls h2_0 (bl h1_0, h1_1)))))), (.lst 51 (eWs (Ev.writes (Prod.fst (ls h2_0 (bl h1_0, h1_1)))))), (.int IntKind.i64 (0))])))
    none)
   (cond (kind7 == 7)
    (cond (sm (ByteArray.size h1_0) && (List.isEmpty (bl h2_1) && List.isEmpty (bl h2_2) && List.isEmpty (bl h2_3) && h2_4 == 0 && h2_5 == 0 && h2_6 == 0 && h2_7 == 0 && List.isEmpty (bl h2_8) && List.isEmpty (bl h2_9) && (List.isEmpty h7 && List.isEmpty h8 && List.isEmpty h9 && List.isEmpty h10)))
     (cond (Prod.snd (Prod.snd (ls h2_0 (bl h1_0, h1_1))))
      (some [(.int IntKind.i64 (0)), (.str (mk [])), (.str (mk [])), (.str (mk [])), (.int IntKind.i64 (0)), (.int IntKind.i64 (0)), (.int IntKind.i64 (0)), (.int IntKind.i64 (0)), (.str (mk [])), (.str (mk [])), (.lst 3 []), (.lst 9 []), (.lst 65 []), (.lst 51 []), (.int IntKind.i64 (3))])
      (cond (!bl (mk (Prod.fst (Prod.snd (ls h2_0 (bl h1_0, h1_1))))) == bl (mk []))
       (some [(.int IntKind.i64 (0)), (.str (mk [])), (.str (mk [])), (.str (mk [])), (.int IntKind.i64 (0)), (.int IntKind.i64 (0)), (.int IntKind.i64 (0)), (.int IntKind.i64 (0)), (.str (mk [])), (.str (mk [])), (.lst 3 []), (.lst 9 []), (.lst 65 []), (.lst 51 []), (.int IntKind.i64 (3))])
       (some [(.int IntKind.i64 (Ev.kind (Prod.fst (ls h2_0 (bl h1_0, h1_1))))), (.str (mk (Ev.repo (Prod.fst (ls h2_0 (bl h1_0, h1_1)))))), (.str (mk (Ev.name (Prod.fst (ls h2_0 (bl h1_0, h1_1)))))), (.str (mk (Ev.other (Prod.fst (ls h2_0 (bl h1_0, h1_1)))))), (.int IntKind.i64 (Ev.who (Prod.fst (ls h2_0 (bl h1_0, h1_1))))), (.int IntKind.i64 (Ev.n (Prod.fst (ls h2_0 (bl h1_0, h1_1))))), (.int IntKind.i64 (Ev.m (Prod.fst (ls h2_0 (bl h1_0, h1_1))))), (.int IntKind.i64 (Ev.k (Prod.fst (ls h2_0 (bl h1_0, h1_1))))), (.str (mk (Ev.text (Prod.fst (ls h2_0 (bl h1_0, h1_1)))))), (.str (mk (Ev.gname (Prod.fst (ls h2_0 (bl h1_0, h1_1)))))), (.lst 3 (eIs (Ev.users (Prod.fst (ls h2_0 (bl h1_0, h1_1)))))), (.lst 9 (eSs (Ev.groups (Prod.fst (ls h2_0 (bl h1_0, h1_1)))))), (.lst 65 (eRs (Ev.rules (Prod.fst (ls h2_0 (bl h1_0, h1_1)))))), (.lst 51 (eWs (Ev.writes (Prod.fst (ls h2_0 (bl h1_0, h1_1)))))), (.int IntKind.i64 (0))])))
     none)
    (cond (kind7 == 8)
     (cond (sm (ByteArray.size h1_0) && (List.isEmpty (bl h2_1) && List.isEmpty (bl h2_2) && List.isEmpty (bl h2_3) && h2_4 == 0 && h2_5 == 0 && h2_6 == 0 && h2_7 == 0 && List.isEmpty (bl h2_8) && List.isEmpty (bl h2_9) && (List.isEmpty h7 && List.isEmpty h8 && List.isEmpty h9 && List.isEmpty h10)))
      (cond (Prod.snd (Prod.snd (ls h2_0 (bl h1_0, h1_1))))
       (some [(.int IntKind.i64 (0)), (.str (mk [])), (.str (mk [])), (.str (mk [])), (.int IntKind.i64 (0)), (.int IntKind.i64 (0)), (.int IntKind.i64 (0)), (.int IntKind.i64 (0)), (.str (mk [])), (.str (mk [])), (.lst 3 []), (.lst 9 []), (.lst 65 []), (.lst 51 []), (.int IntKind.i64 (3))])
       (cond (!bl (mk (Prod.fst (Prod.snd (ls h2_0 (bl h1_0, h1_1))))) == bl (mk []))
        (some [(.int IntKind.i64 (0)), (.str (mk [])), (.str (mk [])), (.str (mk [])), (.int IntKind.i64 (0)), (.int IntKind.i64 (0)), (.int IntKind.i64 (0)), (.int IntKind.i64 (0)), (.str (mk [])), (.str (mk [])), (.lst 3 []), (.lst 9 []), (.lst 65 []), (.lst 51 []), (.int IntKind.i64 (3))])
        (some [(.int IntKind.i64 (Ev.kind (Prod.fst (ls h2_0 (bl h1_0, h1_1))))), (.str (mk (Ev.repo (Prod.fst (ls h2_0 (bl h1_0, h1_1)))))), (.str (mk (Ev.name (Prod.fst (ls h2_0 (bl h1_0, h1_1)))))), (.str (mk (Ev.other (Prod.fst (ls h2_0 (bl h1_0, h1_1)))))), (.int IntKind.i64 (Ev.who (Prod.fst (ls h2_0 (bl h1_0, h1_1))))), (.int IntKind.i64 (Ev.n (Prod.fst (ls h2_0 (bl h1_0, h1_1))))), (.int IntKind.i64 (Ev.m (Prod.fst (ls h2_0 (bl h1_0, h1_1))))), (.int IntKind.i64 (Ev.k (Prod.fst (ls h2_0 (bl h1_0, h1_1))))), (.str (mk (Ev.text (Prod.fst (ls h2_0 (bl h1_0, h1_1)))))), (.str (mk (Ev.gname (Prod.fst (ls h2_0 (bl h1_0, h1_1)))))), (.lst 3 (eIs (Ev.users (Prod.fst (ls h2_0 (bl h1_0, h1_1)))))), (.lst 9 (eSs (Ev.groups (Prod.fst (ls h2_0 (bl h1_0, h1_1)))))), (.lst 65 (eRs (Ev.rules (Prod.fst (ls h2_0 (bl h1_0, h1_1)))))), (.lst 51 (eWs (Ev.writes (Prod.fst (ls h2_0 (bl h1_0, h1_1)))))), (.int IntKind.i64 (0))])))
      none)
     (cond (kind7 == 9)
      (cond (sm (List.length (bl h1_0)))
       (cond (sm (List.length (bl (mk (rwS (bl h1_0) h1_1)))))
        (cond (sm (List.length (bl (mk (ptS (bl (mk (rwS (bl h1_0) h1_1))) (pnB (bl h1_0) h1_1))))))
         (cond (sm (List.length (bl (mk (rwS (bl (mk (ptS (bl (mk (rwS (bl h1_0) h1_1))) (pnB (bl h1_0) h1_1)))) (ptB (bl (mk (rwS (bl h1_0) h1_1))) (pnB (bl h1_0) h1_1)))))))
          (cond (sm (List.length (bl (mk (rwS (bl (mk (rwS (bl (mk (ptS (bl (mk (rwS (bl h1_0) h1_1))) (pnB (bl h1_0) h1_1)))) (ptB (bl (mk (rwS (bl h1_0) h1_1))) (pnB (bl h1_0) h1_1))))) (pnB (bl (mk (ptS (bl (mk (rwS (bl h1_0) h1_1))) (pnB (bl h1_0) h1_1)))) (ptB (bl (mk (rwS (bl h1_0) h1_1))) (pnB (bl h1_0) h1_1))))))))
           (cond (pnB (bl (mk (rwS (bl (mk (rwS (bl (mk (ptS (bl (mk (rwS (bl h1_0) h1_1))) (pnB (bl h1_0) h1_1)))) (ptB (bl (mk (rwS (bl h1_0) h1_1))) (pnB (bl h1_0) h1_1))))) (pnB (bl (mk (ptS (bl (mk (rwS (bl h1_0) h1_1))) (pnB (bl h1_0) h1_1)))) (ptB (bl (mk (rwS (bl h1_0) h1_1))) (pnB (bl h1_0) h1_1)))))) (pnB (bl (mk (rwS (bl (mk (ptS (bl (mk (rwS (bl h1_0) h1_1))) (pnB (bl h1_0) h1_1)))) (ptB (bl (mk (rwS (bl h1_0) h1_1))) (pnB (bl h1_0) h1_1))))) (pnB (bl (mk (ptS (bl (mk (rwS (bl h1_0) h1_1))) (pnB (bl h1_0) h1_1)))) (ptB (bl (mk (rwS (bl h1_0) h1_1))) (pnB (bl h1_0) h1_1)))))
            (some [(.int IntKind.i64 (0)), (.str (mk [])), (.str (mk [])), (.str (mk [])), (.int IntKind.i64 (0)), (.int IntKind.i64 (0)), (.int IntKind.i64 (0)), (.int IntKind.i64 (0)), (.str (mk [])), (.str (mk [])), (.lst 3 []), (.lst 9 []), (.lst 65 []), (.lst 51 []), (.int IntKind.i64 (3))])
            (cond (!bl (mk (rwS (bl (mk (rwS (bl (mk (rwS (bl (mk (ptS (bl (mk (rwS (bl h1_0) h1_1))) (pnB (bl h1_0) h1_1)))) (ptB (bl (mk (rwS (bl h1_0) h1_1))) (pnB (bl h1_0) h1_1))))) (pnB (bl (mk (ptS (bl (mk (rwS (bl h1_0) h1_1))) (pnB (bl h1_0) h1_1)))) (ptB (bl (mk (rwS (bl h1_0) h1_1))) (pnB (bl h1_0) h1_1)))))) (pnB (bl (mk (rwS (bl (mk (ptS (bl (mk (rwS (bl h1_0) h1_1))) (pnB (bl h1_0) h1_1)))) (ptB (bl (mk (rwS (bl h1_0) h1_1))) (pnB (bl h1_0) h1_1))))) (pnB (bl (mk (ptS (bl (mk (rwS (bl h1_0) h1_1))) (pnB (bl h1_0) h1_1)))) (ptB (bl (mk (rwS (bl h1_0) h1_1))) (pnB (bl h1_0) h1_1)))))) == bl (mk []))
             (some [(.int IntKind.i64 (0)), (.str (mk [])), (.str (mk [])), (.str (mk [])), (.int IntKind.i64 (0)), (.int IntKind.i64 (0)), (.int IntKind.i64 (0)), (.int IntKind.i64 (0)), (.str (mk [])), (.str (mk [])), (.lst 3 []), (.lst 9 []), (.lst 65 []), (.lst 51 []), (.int IntKind.i64 (3))])
             (some [(.int IntKind.i64 (h2_0)), (.str (h2_1)), (.str (h2_2)), (.str (h2_3)), (.int IntKind.i64 (pnV (bl h1_0) h1_1)), (.int IntKind.i64 (pnV (bl (mk (ptS (bl (mk (rwS (bl h1_0) h1_1))) (pnB (bl h1_0) h1_1)))) (ptB (bl (mk (rwS (bl h1_0) h1_1))) (pnB (bl h1_0) h1_1)))), (.int IntKind.i64 (pnV (bl (mk (rwS (bl (mk (ptS (bl (mk (rwS (bl h1_0) h1_1))) (pnB (bl h1_0) h1_1)))) (ptB (bl (mk (rwS (bl h1_0) h1_1))) (pnB (bl h1_0) h1_1))))) (pnB (bl (mk (ptS (bl (mk (rwS (bl h1_0) h1_1))) (pnB (bl h1_0) h1_1)))) (ptB (bl (mk (rwS (bl h1_0) h1_1))) (pnB (bl h1_0) h1_1))))), (.int IntKind.i64 (pnV (bl (mk (rwS (bl (mk (rwS (bl (mk (ptS (bl (mk (rwS (bl h1_0) h1_1))) (pnB (bl h1_0) h1_1)))) (ptB (bl (mk (rwS (bl h1_0) h1_1))) (pnB (bl h1_0) h1_1))))) (pnB (bl (mk (ptS (bl (mk (rwS (bl h1_0) h1_1))) (pnB (bl h1_0) h1_1)))) (ptB (bl (mk (rwS (bl h1_0) h1_1))) (pnB (bl h1_0) h1_1)))))) (pnB (bl (mk (rwS (bl (mk (ptS (bl (mk (rwS (bl h1_0) h1_1))) (pnB (bl h1_0) h1_1)))) (ptB (bl (mk (rwS (bl h1_0) h1_1))) (pnB (bl h1_0) h1_1))))) (pnB (bl (mk (ptS (bl (mk (rwS (bl h1_0) h1_1))) (pnB (bl h1_0) h1_1)))) (ptB (bl (mk (rwS (bl h1_0) h1_1))) (pnB (bl h1_0) h1_1)))))), (.str (mk (ptV (bl (mk (rwS (bl h1_0) h1_1))) (pnB (bl h1_0) h1_1)))), (.str (h2_9)), (.lst 3 h7), (.lst 9 h8), (.lst 65 h9), (.lst 51 h10), (.int IntKind.i64 (0))])))
           none)
          none)
         none)
        none)
       none)
      (cond (kind7 == 10)
       (cond (sm (List.length (bl h1_0)))
        (cond (sm (List.length (bl (mk (rwS (bl h1_0) h1_1)))))
         (cond (ptB (bl (mk (rwS (bl h1_0) h1_1))) (pnB (bl h1_0) h1_1))
          (some [(.int IntKind.i64 (0)), (.str (mk [])), (.str (mk [])), (.str (mk [])), (.int IntKind.i64 (0)), (.int IntKind.i64 (0)), (.int IntKind.i64 (0)), (.int IntKind.i64 (0)), (.str (mk [])), (.str (mk [])), (.lst 3 []), (.lst 9 []), (.lst 65 []), (.lst 51 []), (.int IntKind.i64 (3))])
          (cond (!bl (mk (ptS (bl (mk (rwS (bl h1_0) h1_1))) (pnB (bl h1_0) h1_1))) == bl (mk []))
           (some [(.int IntKind.i64 (0)), (.str (mk [])), (.str (mk [])), (.str (mk [])), (.int IntKind.i64 (0)), (.int IntKind.i64 (0)), (.int IntKind.i64 (0)), (.int IntKind.i64 (0)), (.str (mk [])), (.str (mk [])), (.lst 3 []), (.lst 9 []), (.lst 65 []), (.lst 51 []), (.int IntKind.i64 (3))])
           (some [(.int IntKind.i64 (h2_0)), (.str (h2_1)), (.str (h2_2)), (.str (h2_3)), (.int IntKind.i64 (pnV (bl h1_0) h1_1)), (.int IntKind.i64 (h2_5)), (.int IntKind.i64 (h2_6)), (.int IntKind.i64 (h2_7)), (.str (mk (ptV (bl (mk (rwS (bl h1_0) h1_1))) (pnB (bl h1_0) h1_1)))), (.str (h2_9)), (.lst 3 h7), (.lst 9 h8), (.lst 65 h9), (.lst 51 h10), (.int IntKind.i64 (0))])))
         none)
        none)
       (cond (kind7 == 13)
        (cond (sm (List.length (bl h1_0)))
         (cond (sm (List.length (bl (mk (rwS (bl h1_0) h1_1)))))
          (cond (sm (List.length (bl (mk (rwS (bl (mk (rwS (bl h1_0) h1_1))) (pnB (bl h1_0) h1_1))))))
           (cond (pnB (bl (mk (rwS (bl (mk (rwS (bl h1_0) h1_1))) (pnB (bl h1_0) h1_1)))) (pnB (bl (mk (rwS (bl h1_0) h1_1))) (pnB (bl h1_0) h1_1)))
            (some [(.int IntKind.i64 (0)), (.str (mk [])), (.str (mk [])), (.str (mk [])), (.int IntKind.i64 (0)), (.int IntKind.i64 (0)), (.int IntKind.i64 (0)), (.int IntKind.i64 (0)), (.str (mk [])), (.str (mk [])), (.lst 3 []), (.lst 9 []), (.lst 65 []), (.lst 51 []), (.int IntKind.i64 (3))])
            (cond (!bl (mk (rwS (bl (mk (rwS (bl (mk (rwS (bl h1_0) h1_1))) (pnB (bl h1_0) h1_1)))) (pnB (bl (mk (rwS (bl h1_0) h1_1))) (pnB (bl h1_0) h1_1)))) == bl (mk []))
             (some [(.int IntKind.i64 (0)), (.str (mk [])), (.str (mk [])), (.str (mk [])), (.int IntKind.i64 (0)), (.int IntKind.i64 (0)), (.int IntKind.i64 (0)), (.int IntKind.i64 (0)), (.str (mk [])), (.str (mk [])), (.lst 3 []), (.lst 9 []), (.lst 65 []), (.lst 51 []), (.int IntKind.i64 (3))])
             (some [(.int IntKind.i64 (h2_0)), (.str (h2_1)), (.str (h2_2)), (.str (h2_3)), (.int IntKind.i64 (pnV (bl h1_0) h1_1)), (.int IntKind.i64 (pnV (bl (mk (rwS (bl h1_0) h1_1))) (pnB (bl h1_0) h1_1))), (.int IntKind.i64 (h2_6)), (.int IntKind.i64 (pnV (bl (mk (rwS (bl (mk (rwS (bl h1_0) h1_1))) (pnB (bl h1_0) h1_1)))) (pnB (bl (mk (rwS (bl h1_0) h1_1))) (pnB (bl h1_0) h1_1)))), (.str (h2_8)), (.str (h2_9)), (.lst 3 h7), (.lst 9 h8), (.lst 65 h9), (.lst 51 h10), (.int IntKind.i64 (0))])))
           none)
          none)
         none)
        (cond (kind7 == 21)
         (cond (sm (List.length (bl h1_0)))
          (cond (sm (List.length (bl (mk (rwS (bl h1_0) h1_1)))))
           (cond (sm (List.length (bl (mk (rwS (bl (mk (rwS (bl h1_0) h1_1))) (pnB (bl h1_0) h1_1))))))
            (cond (sm (List.length (bl (mk (rwS (bl (mk (rwS (bl (mk (rwS (bl h1_0) h1_1))) (pnB (bl h1_0) h1_1)))) (pwB (bl (mk (rwS (bl h1_0) h1_1))) (pnB (bl h1_0) h1_1)))))))
             (cond (sm (List.length (bl (mk (ptS (bl (mk (rwS (bl (mk (rwS (bl (mk (rwS (bl h1_0) h1_1))) (pnB (bl h1_0) h1_1)))) (pwB (bl (mk (rwS (bl h1_0) h1_1))) (pnB (bl h1_0) h1_1))))) (pwB (bl (mk (rwS (bl (mk (rwS (bl h1_0) h1_1))) (pnB (bl h1_0) h1_1)))) (pwB (bl (mk (rwS (bl h1_0) h1_1))) (pnB (bl h1_0) h1_1))))))))
              (cond (ptB (bl (mk (ptS (bl (mk (rwS (bl (mk (rwS (bl (mk (rwS (bl h1_0) h1_1))) (pnB (bl h1_0) h1_1)))) (pwB (bl (mk (rwS (bl h1_0) h1_1))) (pnB (bl h1_0) h1_1))))) (pwB (bl (mk (rwS (bl (mk (rwS (bl h1_0) h1_1))) (pnB (bl h1_0) h1_1)))) (pwB (bl (mk (rwS (bl h1_0) h1_1))) (pnB (bl h1_0) h1_1)))))) (ptB (bl (mk (rwS (bl (mk (rwS (bl (mk (rwS (bl h1_0) h1_1))) (pnB (bl h1_0) h1_1)))) (pwB (bl (mk (rwS (bl h1_0) h1_1))) (pnB (bl h1_0) h1_1))))) (pwB (bl (mk (rwS (bl (mk (rwS (bl h1_0) h1_1))) (pnB (bl h1_0) h1_1)))) (pwB (bl (mk (rwS (bl h1_0) h1_1))) (pnB (bl h1_0) h1_1)))))
               (some [(.int IntKind.i64 (0)), (.str (mk [])), (.str (mk [])), (.str (mk [])), (.int IntKind.i64 (0)), (.int IntKind.i64 (0)), (.int IntKind.i64 (0)), (.int IntKind.i64 (0)), (.str (mk [])), (.str (mk [])), (.lst 3 []), (.lst 9 []), (.lst 65 []), (.lst 51 []), (.int IntKind.i64 (3))])
               (cond (!bl (mk (ptS (bl (mk (ptS (bl (mk (rwS (bl (mk (rwS (bl (mk (rwS (bl h1_0) h1_1))) (pnB (bl h1_0) h1_1)))) (pwB (bl (mk (rwS (bl h1_0) h1_1))) (pnB (bl h1_0) h1_1))))) (pwB (bl (mk (rwS (bl (mk (rwS (bl h1_0) h1_1))) (pnB (bl h1_0) h1_1)))) (pwB (bl (mk (rwS (bl h1_0) h1_1))) (pnB (bl h1_0) h1_1)))))) (ptB (bl (mk (rwS (bl (mk (rwS (bl (mk (rwS (bl h1_0) h1_1))) (pnB (bl h1_0) h1_1)))) (pwB (bl (mk (rwS (bl h1_0) h1_1))) (pnB (bl h1_0) h1_1))))) (pwB (bl (mk (rwS (bl (mk (rwS (bl h1_0) h1_1))) (pnB (bl h1_0) h1_1)))) (pwB (bl (mk (rwS (bl h1_0) h1_1))) (pnB (bl h1_0) h1_1)))))) == bl (mk []))
                (some [(.int IntKind.i64 (0)), (.str (mk [])), (.str (mk [])), (.str (mk [])), (.int IntKind.i64 (0)), (.int IntKind.i64 (0)), (.int IntKind.i64 (0)), (.int IntKind.i64 (0)), (.str (mk [])), (.str (mk [])), (.lst 3 []), (.lst 9 []), (.lst 65 []), (.lst 51 []), (.int IntKind.i64 (3))])
                (some [(.int IntKind.i64 (h2_0)), (.str (mk (rwW (bl (mk (rwS (bl h1_0) h1_1))) (pnB (bl h1_0) h1_1)))), (.str (mk (rwW (bl (mk (rwS (bl (mk (rwS (bl h1_0) h1_1))) (pnB (bl h1_0) h1_1)))) (pwB (bl (mk (rwS (bl h1_0) h1_1))) (pnB (bl h1_0) h1_1))))), (.str (mk (ptV (bl (mk (ptS (bl (mk (rwS (bl (mk (rwS (bl (mk (rwS (bl h1_0) h1_1))) (pnB (bl h1_0) h1_1)))) (pwB (bl (mk (rwS (bl h1_0) h1_1))) (pnB (bl h1_0) h1_1))))) (pwB (bl (mk (rwS (bl (mk (rwS (bl h1_0) h1_1))) (pnB (bl h1_0) h1_1)))) (pwB (bl (mk (rwS (bl h1_0) h1_1))) (pnB (bl h1_0) h1_1)))))) (ptB (bl (mk (rwS (bl (mk (rwS (bl (mk (rwS (bl h1_0) h1_1))) (pnB (bl h1_0) h1_1)))) (pwB (bl (mk (rwS (bl h1_0) h1_1))) (pnB (bl h1_0) h1_1))))) (pwB (bl (mk (rwS (bl (mk (rwS (bl h1_0) h1_1))) (pnB (bl h1_0) h1_1)))) (pwB (bl (mk (rwS (bl h1_0) h1_1))) (pnB (bl h1_0) h1_1))))))), (.int IntKind.i64 (pnV (bl h1_0) h1_1)), (.int IntKind.i64 (h2_5)), (.int IntKind.i64 (h2_6)), (.int IntKind.i64 (h2_7)), (.str (mk (ptV (bl (mk (rwS (bl (mk (rwS (bl (mk (rwS (bl h1_0) h1_1))) (pnB (bl h1_0) h1_1)))) (pwB (bl (mk (rwS (bl h1_0) h1_1))) (pnB (bl h1_0) h1_1))))) (pwB (bl (mk (rwS (bl (mk (rwS (bl h1_0) h1_1))) (pnB (bl h1_0) h1_1)))) (pwB (bl (mk (rwS (bl h1_0) h1_1))) (pnB (bl h1_0) h1_1)))))), (.str (h2_9)), (.lst 3 h7), (.lst 9 h8), (.lst 65 h9), (.lst 51 h10), (.int IntKind.i64 (0))])))
              none)
             none)
            none)
           none)
          none)
         (cond (kind7 == 22)
          (cond (sm (List.length (bl h1_0)))
           (cond (pwB (bl h1_0) h1_1)
            (some [(.int IntKind.i64 (0)), (.str (mk [])), (.str (mk [])), (.str (mk [])), (.int IntKind.i64 (0)), (.int IntKind.i64 (0)), (.int IntKind.i64 (0)), (.int IntKind.i64 (0)), (.str (mk [])), (.str (mk [])), (.lst 3 []), (.lst 9 []), (.lst 65 []), (.lst 51 []), (.int IntKind.i64 (3))])
            (cond (!bl (mk (rwS (bl h1_0) h1_1)) == bl (mk []))
             (some [(.int IntKind.i64 (0)), (.str (mk [])), (.str (mk [])), (.str (mk [])), (.int IntKind.i64 (0)), (.int IntKind.i64 (0)), (.int IntKind.i64 (0)), (.int IntKind.i64 (0)), (.str (mk [])), (.str (mk [])), (.lst 3 []), (.lst 9 []), (.lst 65 []), (.lst 51 []), (.int IntKind.i64 (3))])
             (some [(.int IntKind.i64 (h2_0)), (.str (mk (rwW (bl h1_0) h1_1))), (.str (h2_2)), (.str (h2_3)), (.int IntKind.i64 (h2_4)), (.int IntKind.i64 (h2_5)), (.int IntKind.i64 (h2_6)), (.int IntKind.i64 (h2_7)), (.str (h2_8)), (.str (h2_9)), (.lst 3 h7), (.lst 9 h8), (.lst 65 h9), (.lst 51 h10), (.int IntKind.i64 (0))])))
           none)
          (cond (kind7 == 5)
           (cond (sm (List.length (bl h1_0)))
            (cond (pwB (bl h1_0) h1_1)
             (some [(.int IntKind.i64 (0)), (.str (mk [])), (.str (mk [])), (.str (mk [])), (.int IntKind.i64 (0)), (.int IntKind.i64 (0)), (.int IntKind.i64 (0)), (.int IntKind.i64 (0)), (.str (mk [])), (.str (mk [])), (.lst 3 []), (.lst 9 []), (.lst 65 []), (.lst 51 []), (.int IntKind.i64 (3))])
             (cond (!bl (mk (rwS (bl h1_0) h1_1)) == bl (mk []))
              (some [(.int IntKind.i64 (0)), (.str (mk [])), (.str (mk [])), (.str (mk [])), (.int IntKind.i64 (0)), (.int IntKind.i64 (0)), (.int IntKind.i64 (0)), (.int IntKind.i64 (0)), (.str (mk [])), (.str (mk [])), (.lst 3 []), (.lst 9 []), (.lst 65 []), (.lst 51 []), (.int IntKind.i64 (3))])
              (some [(.int IntKind.i64 (h2_0)), (.str (mk (rwW (bl h1_0) h1_1))), (.str (h2_2)), (.str (h2_3)), (.int IntKind.i64 (h2_4)), (.int IntKind.i64 (h2_5)), (.int IntKind.i64 (h2_6)), (.int IntKind.i64 (h2_7)), (.str (h2_8)), (.str (h2_9)), (.lst 3 h7), (.lst 9 h8), (.lst 65 h9), (.lst 51 h10), (.int IntKind.i64 (0))])))
            none)
           (cond (kind7 == 20)
            (cond (sm (List.length (bl h1_0)))
             (cond (pwB (bl h1_0) h1_1)
              (some [(.int IntKind.i64 (0)), (.str (mk [])), (.str (mk [])), (.str (mk [])), (.int IntKind.i64 (0)), (.int IntKind.i64 (0)), (.int IntKind.i64 (0)), (.int IntKind.i64 (0)), (.str (mk [])), (.str (mk [])), (.lst 3 []), (.lst 9 []), (.lst 65 []), (.lst 51 []), (.int IntKind.i64 (3))])
              (cond (!bl (mk (rwS (bl h1_0) h1_1)) == bl (mk []))
               (some [(.int IntKind.i64 (0)), (.str (mk [])), (.str (mk [])), (.str (mk [])), (.int IntKind.i64 (0)), (.int IntKind.i64 (0)), (.int IntKind.i64 (0)), (.int IntKind.i64 (0)), (.str (mk [])), (.str (mk [])), (.lst 3 []), (.lst 9 []), (.lst 65 []), (.lst 51 []), (.int IntKind.i64 (3))])
               (some [(.int IntKind.i64 (h2_0)), (.str (mk (rwW (bl h1_0) h1_1))), (.str (h2_2)), (.str (h2_3)), (.int IntKind.i64 (h2_4)), (.int IntKind.i64 (h2_5)), (.int IntKind.i64 (h2_6)), (.int IntKind.i64 (h2_7)), (.str (h2_8)), (.str (h2_9)), (.lst 3 h7), (.lst 9 h8), (.lst 65 h9), (.lst 51 h10), (.int IntKind.i64 (0))])))
             none)
            (cond (kind7 == 2)
             (cond (sm (List.length (bl h1_0)))
              (cond (sm (List.length (bl (mk (rwS (bl h1_0) h1_1)))))
               (cond (sm (List.length (bl (mk (rwS (bl (mk (rwS (bl h1_0) h1_1))) (pwB (bl h1_0) h1_1))))))
                (cond (kind7 == 4)
                 (cond (sm (List.length (bl (mk (rwS (bl (mk (rwS (bl (mk (rwS (bl h1_0) h1_1))) (pwB (bl h1_0) h1_1)))) (pwB (bl (mk (rwS (bl h1_0) h1_1))) (pwB (bl h1_0) h1_1)))))))
                  (cond (pnB (bl (mk (rwS (bl (mk (rwS (bl (mk (rwS (bl h1_0) h1_1))) (pwB (bl h1_0) h1_1)))) (pwB (bl (mk (rwS (bl h1_0) h1_1))) (pwB (bl h1_0) h1_1))))) (pwB (bl (mk (rwS (bl (mk (rwS (bl h1_0) h1_1))) (pwB (bl h1_0) h1_1)))) (pwB (bl (mk (rwS (bl h1_0) h1_1))) (pwB (bl h1_0) h1_1))))
                   (some [(.int IntKind.i64 (0)), (.str (mk [])), (.str (mk [])), (.str (mk [])), (.int IntKind.i64 (0)), (.int IntKind.i64 (0)), (.int IntKind.i64 (0)), (.int IntKind.i64 (0)), (.str (mk [])), (.str (mk [])), (.lst 3 []), (.lst 9 []), (.lst 65 []), (.lst 51 []), (.int IntKind.i64 (3))])
                   (cond (!bl (mk (rwS (bl (mk (rwS (bl (mk (rwS (bl (mk (rwS (bl h1_0) h1_1))) (pwB (bl h1_0) h1_1)))) (pwB (bl (mk (rwS (bl h1_0) h1_1))) (pwB (bl h1_0) h1_1))))) (pwB (bl (mk (rwS (bl (mk (rwS (bl h1_0) h1_1))) (pwB (bl h1_0) h1_1)))) (pwB (bl (mk (rwS (bl h1_0) h1_1))) (pwB (bl h1_0) h1_1))))) == bl (mk []))
                    (some [(.int IntKind.i64 (0)), (.str (mk [])), (.str (mk [])), (.str (mk [])), (.int IntKind.i64 (0)), (.int IntKind.i64 (0)), (.int IntKind.i64 (0)), (.int IntKind.i64 (0)), (.str (mk [])), (.str (mk [])), (.lst 3 []), (.lst 9 []), (.lst 65 []), (.lst 51 []), (.int IntKind.i64 (3))])
                    (some [(.int IntKind.i64 (h2_0)), (.str (mk (rwW (bl h1_0) h1_1))), (.str (mk (rwW (bl (mk (rwS (bl h1_0) h1_1))) (pwB (bl h1_0) h1_1)))), (.str (mk (rwW (bl (mk (rwS (bl (mk (rwS (bl h1_0) h1_1))) (pwB (bl h1_0) h1_1)))) (pwB (bl (mk (rwS (bl h1_0) h1_1))) (pwB (bl h1_0) h1_1))))), (.int IntKind.i64 (pnV (bl (mk (rwS (bl (mk (rwS (bl (mk (rwS (bl h1_0) h1_1))) (pwB (bl h1_0) h1_1)))) (pwB (bl (mk (rwS (bl h1_0) h1_1))) (pwB (bl h1_0) h1_1))))) (pwB (bl (mk (rwS (bl (mk (rwS (bl h1_0) h1_1))) (pwB (bl h1_0) h1_1)))) (pwB (bl (mk (rwS (bl h1_0) h1_1))) (pwB (bl h1_0) h1_1))))), (.int IntKind.i64 (h2_5)), (.int IntKind.i64 (h2_6)), (.int IntKind.i64 (h2_7)), (.str (h2_8)), (.str (h2_9)), (.lst 3 h7), (.lst 9 h8), (.lst 65 h9), (.lst 51 h10), (.int IntKind.i64 (0))])))
                  none)
                 (cond (pwB (bl (mk (rwS (bl (mk (rwS (bl h1_0) h1_1))) (pwB (bl h1_0) h1_1)))) (pwB (bl (mk (rwS (bl h1_0) h1_1))) (pwB (bl h1_0) h1_1)))
                  (some [(.int IntKind.i64 (0)), (.str (mk [])), (.str (mk [])), (.str (mk [])), (.int IntKind.i64 (0)), (.int IntKind.i64 (0)), (.int IntKind.i64 (0)), (.int IntKind.i64 (0)), (.str (mk [])), (.str (mk [])), (.lst 3 []), (.lst 9 []), (.lst 65 []), (.lst 51 []), (.int IntKind.i64 (3))])
                  (cond (!bl (mk (rwS (bl (mk (rwS (bl (mk (rwS (bl h1_0) h1_1))) (pwB (bl h1_0) h1_1)))) (pwB (bl (mk (rwS (bl h1_0) h1_1))) (pwB (bl h1_0) h1_1)))) == bl (mk []))
                   (some [(.int IntKind.i64 (0)), (.str (mk [])), (.str (mk [])), (.str (mk [])), (.int IntKind.i64 (0)), (.int IntKind.i64 (0)), (.int IntKind.i64 (0)), (.int IntKind.i64 (0)), (.str (mk [])), (.str (mk [])), (.lst 3 []), (.lst 9 []), (.lst 65 []), (.lst 51 []), (.int IntKind.i64 (3))])
                   (some [(.int IntKind.i64 (h2_0)), (.str (mk (rwW (bl h1_0) h1_1))), (.str (mk (rwW (bl (mk (rwS (bl h1_0) h1_1))) (pwB (bl h1_0) h1_1)))), (.str (mk (rwW (bl (mk (rwS (bl (mk (rwS (bl h1_0) h1_1))) (pwB (bl h1_0) h1_1)))) (pwB (bl (mk (rwS (bl h1_0) h1_1))) (pwB (bl h1_0) h1_1))))), (.int IntKind.i64 (h2_4)), (.int IntKind.i64 (h2_5)), (.int IntKind.i64 (h2_6)), (.int IntKind.i64 (h2_7)), (.str (h2_8)), (.str (h2_9)), (.lst 3 h7), (.lst 9 h8), (.lst 65 h9), (.lst 51 h10), (.int IntKind.i64 (0))]))))
                none)
               none)
              none)
             (cond (kind7 == 4)
              (cond (sm (List.length (bl h1_0)))
               (cond (sm (List.length (bl (mk (rwS (bl h1_0) h1_1)))))
                (cond (sm (List.length (bl (mk (rwS (bl (mk (rwS (bl h1_0) h1_1))) (pwB (bl h1_0) h1_1))))))
                 (cond (kind7 == 4)
                  (cond (sm (List.length (bl (mk (rwS (bl (mk (rwS (bl (mk (rwS (bl h1_0) h1_1))) (pwB (bl h1_0) h1_1)))) (pwB (bl (mk (rwS (bl h1_0) h1_1))) (pwB (bl h1_0) h1_1)))))))
                   (cond (pnB (bl (mk (rwS (bl (mk (rwS (bl (mk (rwS (bl h1_0) h1_1))) (pwB (bl h1_0) h1_1)))) (pwB (bl (mk (rwS (bl h1_0) h1_1))) (pwB (bl h1_0) h1_1))))) (pwB (bl (mk (rwS (bl (mk (rwS (bl h1_0) h1_1))) (pwB (bl h1_0) h1_1)))) (pwB (bl (mk (rwS (bl h1_0) h1_1))) (pwB (bl h1_0) h1_1))))
                    (some [(.int IntKind.i64 (0)), (.str (mk [])), (.str (mk [])), (.str (mk [])), (.int IntKind.i64 (0)), (.int IntKind.i64 (0)), (.int IntKind.i64 (0)), (.int IntKind.i64 (0)), (.str (mk [])), (.str (mk [])), (.lst 3 []), (.lst 9 []), (.lst 65 []), (.lst 51 []), (.int IntKind.i64 (3))])
                    (cond (!bl (mk (rwS (bl (mk (rwS (bl (mk (rwS (bl (mk (rwS (bl h1_0) h1_1))) (pwB (bl h1_0) h1_1)))) (pwB (bl (mk (rwS (bl h1_0) h1_1))) (pwB (bl h1_0) h1_1))))) (pwB (bl (mk (rwS (bl (mk (rwS (bl h1_0) h1_1))) (pwB (bl h1_0) h1_1)))) (pwB (bl (mk (rwS (bl h1_0) h1_1))) (pwB (bl h1_0) h1_1))))) == bl (mk []))
                     (some [(.int IntKind.i64 (0)), (.str (mk [])), (.str (mk [])), (.str (mk [])), (.int IntKind.i64 (0)), (.int IntKind.i64 (0)), (.int IntKind.i64 (0)), (.int IntKind.i64 (0)), (.str (mk [])), (.str (mk [])), (.lst 3 []), (.lst 9 []), (.lst 65 []), (.lst 51 []), (.int IntKind.i64 (3))])
                     (some [(.int IntKind.i64 (h2_0)), (.str (mk (rwW (bl h1_0) h1_1))), (.str (mk (rwW (bl (mk (rwS (bl h1_0) h1_1))) (pwB (bl h1_0) h1_1)))), (.str (mk (rwW (bl (mk (rwS (bl (mk (rwS (bl h1_0) h1_1))) (pwB (bl h1_0) h1_1)))) (pwB (bl (mk (rwS (bl h1_0) h1_1))) (pwB (bl h1_0) h1_1))))), (.int IntKind.i64 (pnV (bl (mk (rwS (bl (mk (rwS (bl (mk (rwS (bl h1_0) h1_1))) (pwB (bl h1_0) h1_1)))) (pwB (bl (mk (rwS (bl h1_0) h1_1))) (pwB (bl h1_0) h1_1))))) (pwB (bl (mk (rwS (bl (mk (rwS (bl h1_0) h1_1))) (pwB (bl h1_0) h1_1)))) (pwB (bl (mk (rwS (bl h1_0) h1_1))) (pwB (bl h1_0) h1_1))))), (.int IntKind.i64 (h2_5)), (.int IntKind.i64 (h2_6)), (.int IntKind.i64 (h2_7)), (.str (h2_8)), (.str (h2_9)), (.lst 3 h7), (.lst 9 h8), (.lst 65 h9), (.lst 51 h10), (.int IntKind.i64 (0))])))
                   none)
                  (cond (pwB (bl (mk (rwS (bl (mk (rwS (bl h1_0) h1_1))) (pwB (bl h1_0) h1_1)))) (pwB (bl (mk (rwS (bl h1_0) h1_1))) (pwB (bl h1_0) h1_1)))
                   (some [(.int IntKind.i64 (0)), (.str (mk [])), (.str (mk [])), (.str (mk [])), (.int IntKind.i64 (0)), (.int IntKind.i64 (0)), (.int IntKind.i64 (0)), (.int IntKind.i64 (0)), (.str (mk [])), (.str (mk [])), (.lst 3 []), (.lst 9 []), (.lst 65 []), (.lst 51 []), (.int IntKind.i64 (3))])
                   (cond (!bl (mk (rwS (bl (mk (rwS (bl (mk (rwS (bl h1_0) h1_1))) (pwB (bl h1_0) h1_1)))) (pwB (bl (mk (rwS (bl h1_0) h1_1))) (pwB (bl h1_0) h1_1)))) == bl (mk []))
                    (some [(.int IntKind.i64 (0)), (.str (mk [])), (.str (mk [])), (.str (mk [])), (.int IntKind.i64 (0)), (.int IntKind.i64 (0)), (.int IntKind.i64 (0)), (.int IntKind.i64 (0)), (.str (mk [])), (.str (mk [])), (.lst 3 []), (.lst 9 []), (.lst 65 []), (.lst 51 []), (.int IntKind.i64 (3))])
                    (some [(.int IntKind.i64 (h2_0)), (.str (mk (rwW (bl h1_0) h1_1))), (.str (mk (rwW (bl (mk (rwS (bl h1_0) h1_1))) (pwB (bl h1_0) h1_1)))), (.str (mk (rwW (bl (mk (rwS (bl (mk (rwS (bl h1_0) h1_1))) (pwB (bl h1_0) h1_1)))) (pwB (bl (mk (rwS (bl h1_0) h1_1))) (pwB (bl h1_0) h1_1))))), (.int IntKind.i64 (h2_4)), (.int IntKind.i64 (h2_5)), (.int IntKind.i64 (h2_6)), (.int IntKind.i64 (h2_7)), (.str (h2_8)), (.str (h2_9)), (.lst 3 h7), (.lst 9 h8), (.lst 65 h9), (.lst 51 h10), (.int IntKind.i64 (0))]))))
                 none)
                none)
               none)
              (cond (kind7 == 3)
               (cond (sm (List.length (bl h1_0)))
                (cond (sm (List.length (bl (mk (rwS (bl h1_0) h1_1)))))
                 (cond (pwB (bl (mk (rwS (bl h1_0) h1_1))) (pwB (bl h1_0) h1_1))
                  (some [(.int IntKind.i64 (0)), (.str (mk [])), (.str (mk [])), (.str (mk [])), (.int IntKind.i64 (0)), (.int IntKind.i64 (0)), (.int IntKind.i64 (0)), (.int IntKind.i64 (0)), (.str (mk [])), (.str (mk [])), (.lst 3 []), (.lst 9 []), (.lst 65 []), (.lst 51 []), (.int IntKind.i64 (3))])
                  (cond (!bl (mk (rwS (bl (mk (rwS (bl h1_0) h1_1))) (pwB (bl h1_0) h1_1))) == bl (mk []))
                   (some [(.int IntKind.i64 (0)), (.str (mk [])), (.str (mk [])), (.str (mk [])), (.int IntKind.i64 (0)), (.int IntKind.i64 (0)), (.int IntKind.i64 (0)), (.int IntKind.i64 (0)), (.str (mk [])), (.str (mk [])), (.lst 3 []), (.lst 9 []), (.lst 65 []), (.lst 51 []), (.int IntKind.i64 (3))])
                   (some [(.int IntKind.i64 (h2_0)), (.str (mk (rwW (bl h1_0) h1_1))), (.str (mk (rwW (bl (mk (rwS (bl h1_0) h1_1))) (pwB (bl h1_0) h1_1)))), (.str (h2_3)), (.int IntKind.i64 (h2_4)), (.int IntKind.i64 (h2_5)), (.int IntKind.i64 (h2_6)), (.int IntKind.i64 (h2_7)), (.str (h2_8)), (.str (h2_9)), (.lst 3 h7), (.lst 9 h8), (.lst 65 h9), (.lst 51 h10), (.int IntKind.i64 (0))])))
                 none)
                none)
               (cond (kind7 == 6)
                (cond (sm (List.length (bl h1_0)))
                 (cond (pnB (bl h1_0) h1_1)
                  (some [(.int IntKind.i64 (0)), (.str (mk [])), (.str (mk [])), (.str (mk [])), (.int IntKind.i64 (0)), (.int IntKind.i64 (0)), (.int IntKind.i64 (0)), (.int IntKind.i64 (0)), (.str (mk [])), (.str (mk [])), (.lst 3 []), (.lst 9 []), (.lst 65 []), (.lst 51 []), (.int IntKind.i64 (3))])
                  (cond (!bl (mk (rwS (bl h1_0) h1_1)) == bl (mk []))
                   (some [(.int IntKind.i64 (0)), (.str (mk [])), (.str (mk [])), (.str (mk [])), (.int IntKind.i64 (0)), (.int IntKind.i64 (0)), (.int IntKind.i64 (0)), (.int IntKind.i64 (0)), (.str (mk [])), (.str (mk [])), (.lst 3 []), (.lst 9 []), (.lst 65 []), (.lst 51 []), (.int IntKind.i64 (3))])
                   (some [(.int IntKind.i64 (h2_0)), (.str (h2_1)), (.str (h2_2)), (.str (h2_3)), (.int IntKind.i64 (h2_4)), (.int IntKind.i64 (pnV (bl h1_0) h1_1)), (.int IntKind.i64 (h2_6)), (.int IntKind.i64 (h2_7)), (.str (h2_8)), (.str (h2_9)), (.lst 3 h7), (.lst 9 h8), (.lst 65 h9), (.lst 51 h10), (.int IntKind.i64 (0))])))
                 none)
                (cond (kind7 == 11)
                 (cond (sm (List.length (bl h1_0)))
                  (cond (pnB (bl h1_0) h1_1)
                   (some [(.int IntKind.i64 (0)), (.str (mk [])), (.str (mk [])), (.str (mk [])), (.int IntKind.i64 (0)), (.int IntKind.i64 (0)), (.int IntKind.i64 (0)), (.int IntKind.i64 (0)), (.str (mk [])), (.str (mk [])), (.lst 3 []), (.lst 9 []), (.lst 65 []), (.lst 51 []), (.int IntKind.i64 (3))])
                   (cond (!bl (mk (rwS (bl h1_0) h1_1)) == bl (mk []))
                    (some [(.int IntKind.i64 (0)), (.str (mk [])), (.str (mk [])), (.str (mk [])), (.int IntKind.i64 (0)), (.int IntKind.i64 (0)), (.int IntKind.i64 (0)), (.int IntKind.i64 (0)), (.str (mk [])), (.str (mk [])), (.lst 3 []), (.lst 9 []), (.lst 65 []), (.lst 51 []), (.int IntKind.i64 (3))])
                    (some [(.int IntKind.i64 (h2_0)), (.str (h2_1)), (.str (h2_2)), (.str (h2_3)), (.int IntKind.i64 (h2_4)), (.int IntKind.i64 (pnV (bl h1_0) h1_1)), (.int IntKind.i64 (h2_6)), (.int IntKind.i64 (h2_7)), (.str (h2_8)), (.str (h2_9)), (.lst 3 h7), (.lst 9 h8), (.lst 65 h9), (.lst 51 h10), (.int IntKind.i64 (0))])))
                  none)
                 (cond (kind7 == 14)
                  (cond (sm (List.length (bl h1_0)))
                   (cond (pnB (bl h1_0) h1_1)
                    (some [(.int IntKind.i64 (0)), (.str (mk [])), (.str (mk [])), (.str (mk [])), (.int IntKind.i64 (0)), (.int IntKind.i64 (0)), (.int IntKind.i64 (0)), (.int IntKind.i64 (0)), (.str (mk [])), (.str (mk [])), (.lst 3 []), (.lst 9 []), (.lst 65 []), (.lst 51 []), (.int IntKind.i64 (3))])
                    (cond (!bl (mk (rwS (bl h1_0) h1_1)) == bl (mk []))
                     (some [(.int IntKind.i64 (0)), (.str (mk [])), (.str (mk [])), (.str (mk [])), (.int IntKind.i64 (0)), (.int IntKind.i64 (0)), (.int IntKind.i64 (0)), (.int IntKind.i64 (0)), (.str (mk [])), (.str (mk [])), (.lst 3 []), (.lst 9 []), (.lst 65 []), (.lst 51 []), (.int IntKind.i64 (3))])
                     (some [(.int IntKind.i64 (h2_0)), (.str (h2_1)), (.str (h2_2)), (.str (h2_3)), (.int IntKind.i64 (h2_4)), (.int IntKind.i64 (pnV (bl h1_0) h1_1)), (.int IntKind.i64 (h2_6)), (.int IntKind.i64 (h2_7)), (.str (h2_8)), (.str (h2_9)), (.lst 3 h7), (.lst 9 h8), (.lst 65 h9), (.lst 51 h10), (.int IntKind.i64 (0))])))
                   none)
                  (cond (kind7 == 15)
                   (cond (sm (List.length (bl h1_0)))
                    (cond (sm (List.length (bl (mk (rwS (bl h1_0) h1_1)))))
                     (cond (pnB (bl (mk (rwS (bl h1_0) h1_1))) (pnB (bl h1_0) h1_1))
                      (some [(.int IntKind.i64 (0)), (.str (mk [])), (.str (mk [])), (.str (mk [])), (.int IntKind.i64 (0)), (.int IntKind.i64 (0)), (.int IntKind.i64 (0)), (.int IntKind.i64 (0)), (.str (mk [])), (.str (mk [])), (.lst 3 []), (.lst 9 []), (.lst 65 []), (.lst 51 []), (.int IntKind.i64 (3))])
                      (cond (!bl (mk (rwS (bl (mk (rwS (bl h1_0) h1_1))) (pnB (bl h1_0) h1_1))) == bl (mk []))
                       (some [(.int IntKind.i64 (0)), (.str (mk [])), (.str (mk [])), (.str (mk [])), (.int IntKind.i64 (0)), (.int IntKind.i64 (0)), (.int IntKind.i64 (0)), (.int IntKind.i64 (0)), (.str (mk [])), (.str (mk [])), (.lst 3 []), (.lst 9 []), (.lst 65 []), (.lst 51 []), (.int IntKind.i64 (3))])
                       (some [(.int IntKind.i64 (h2_0)), (.str (h2_1)), (.str (h2_2)), (.str (h2_3)), (.int IntKind.i64 (h2_4)), (.int IntKind.i64 (pnV (bl h1_0) h1_1)), (.int IntKind.i64 (pnV (bl (mk (rwS (bl h1_0) h1_1))) (pnB (bl h1_0) h1_1))), (.int IntKind.i64 (h2_7)), (.str (h2_8)), (.str (h2_9)), (.lst 3 h7), (.lst 9 h8), (.lst 65 h9), (.lst 51 h10), (.int IntKind.i64 (0))])))
                     none)
                    none)
                   (cond (kind7 == 17)
                    (cond (sm (List.length (bl h1_0)))
                     (cond (sm (List.length (bl (mk (rwS (bl h1_0) h1_1)))))
                      (cond (pnB (bl (mk (rwS (bl h1_0) h1_1))) (pnB (bl h1_0) h1_1))
                       (some [(.int IntKind.i64 (0)), (.str (mk [])), (.str (mk [])), (.str (mk [])), (.int IntKind.i64 (0)), (.int IntKind.i64 (0)), (.int IntKind.i64 (0)), (.int IntKind.i64 (0)), (.str (mk [])), (.str (mk [])), (.lst 3 []), (.lst 9 []), (.lst 65 []), (.lst 51 []), (.int IntKind.i64 (3))])
                       (cond (!bl (mk (rwS (bl (mk (rwS (bl h1_0) h1_1))) (pnB (bl h1_0) h1_1))) == bl (mk []))
                        (some [(.int IntKind.i64 (0)), (.str (mk [])), (.str (mk [])), (.str (mk [])), (.int IntKind.i64 (0)), (.int IntKind.i64 (0)), (.int IntKind.i64 (0)), (.int IntKind.i64 (0)), (.str (mk [])), (.str (mk [])), (.lst 3 []), (.lst 9 []), (.lst 65 []), (.lst 51 []), (.int IntKind.i64 (3))])
                        (some [(.int IntKind.i64 (h2_0)), (.str (h2_1)), (.str (h2_2)), (.str (h2_3)), (.int IntKind.i64 (h2_4)), (.int IntKind.i64 (pnV (bl h1_0) h1_1)), (.int IntKind.i64 (pnV (bl (mk (rwS (bl h1_0) h1_1))) (pnB (bl h1_0) h1_1))), (.int IntKind.i64 (h2_7)), (.str (h2_8)), (.str (h2_9)), (.lst 3 h7), (.lst 9 h8), (.lst 65 h9), (.lst 51 h10), (.int IntKind.i64 (0))])))
                      none)
                     none)
                    (cond (kind7 == 18)
                     (cond (sm (List.length (bl h1_0)))
                      (cond (sm (List.length (bl (mk (rwS (bl h1_0) h1_1)))))
                       (cond (pnB (bl (mk (rwS (bl h1_0) h1_1))) (pnB (bl h1_0) h1_1))
                        (some [(.int IntKind.i64 (0)), (.str (mk [])), (.str (mk [])), (.str (mk [])), (.int IntKind.i64 (0)), (.int IntKind.i64 (0)), (.int IntKind.i64 (0)), (.int IntKind.i64 (0)), (.str (mk [])), (.str (mk [])), (.lst 3 []), (.lst 9 []), (.lst 65 []), (.lst 51 []), (.int IntKind.i64 (3))])
                        (cond (!bl (mk (rwS (bl (mk (rwS (bl h1_0) h1_1))) (pnB (bl h1_0) h1_1))) == bl (mk []))
                         (some [(.int IntKind.i64 (0)), (.str (mk [])), (.str (mk [])), (.str (mk [])), (.int IntKind.i64 (0)), (.int IntKind.i64 (0)), (.int IntKind.i64 (0)), (.int IntKind.i64 (0)), (.str (mk [])), (.str (mk [])), (.lst 3 []), (.lst 9 []), (.lst 65 []), (.lst 51 []), (.int IntKind.i64 (3))])
                         (some [(.int IntKind.i64 (h2_0)), (.str (h2_1)), (.str (h2_2)), (.str (h2_3)), (.int IntKind.i64 (h2_4)), (.int IntKind.i64 (pnV (bl h1_0) h1_1)), (.int IntKind.i64 (pnV (bl (mk (rwS (bl h1_0) h1_1))) (pnB (bl h1_0) h1_1))), (.int IntKind.i64 (h2_7)), (.str (h2_8)), (.str (h2_9)), (.lst 3 h7), (.lst 9 h8), (.lst 65 h9), (.lst 51 h10), (.int IntKind.i64 (0))])))
                       none)
                      none)
                     (cond (kind7 == 16)
                      (cond (sm (List.length (bl h1_0)))
                       (cond (sm (List.length (bl (mk (rwS (bl h1_0) h1_1)))))
                        (cond (sm (List.length (bl (mk (rwS (bl (mk (rwS (bl h1_0) h1_1))) (pnB (bl h1_0) h1_1))))))
                         (cond (pnB (bl (mk (rwS (bl (mk (rwS (bl h1_0) h1_1))) (pnB (bl h1_0) h1_1)))) (pnB (bl (mk (rwS (bl h1_0) h1_1))) (pnB (bl h1_0) h1_1)))
                          (some [(.int IntKind.i64 (0)), (.str (mk [])), (.str (mk [])), (.str (mk [])), (.int IntKind.i64 (0)), (.int IntKind.i64 (0)), (.int IntKind.i64 (0)), (.int IntKind.i64 (0)), (.str (mk [])), (.str (mk [])), (.lst 3 []), (.lst 9 []), (.lst 65 []), (.lst 51 []), (.int IntKind.i64 (3))])
                          (cond (!bl (mk (rwS (bl (mk (rwS (bl (mk (rwS (bl h1_0) h1_1))) (pnB (bl h1_0) h1_1)))) (pnB (bl (mk (rwS (bl h1_0) h1_1))) (pnB (bl h1_0) h1_1)))) == bl (mk []))
                           (some [(.int IntKind.i64 (0)), (.str (mk [])), (.str (mk [])), (.str (mk [])), (.int IntKind.i64 (0)), (.int IntKind.i64 (0)), (.int IntKind.i64 (0)), (.int IntKind.i64 (0)), (.str (mk [])), (.str (mk [])), (.lst 3 []), (.lst 9 []), (.lst 65 []), (.lst 51 []), (.int IntKind.i64 (3))])
                           (some [(.int IntKind.i64 (h2_0)), (.str (h2_1)), (.str (h2_2)), (.str (h2_3)), (.int IntKind.i64 (h2_4)), (.int IntKind.i64 (pnV (bl h1_0) h1_1)), (.int IntKind.i64 (pnV (bl (mk (rwS (bl h1_0) h1_1))) (pnB (bl h1_0) h1_1))), (.int IntKind.i64 (pnV (bl (mk (rwS (bl (mk (rwS (bl h1_0) h1_1))) (pnB (bl h1_0) h1_1)))) (pnB (bl (mk (rwS (bl h1_0) h1_1))) (pnB (bl h1_0) h1_1)))), (.str (h2_8)), (.str (h2_9)), (.lst 3 h7), (.lst 9 h8), (.lst 65 h9), (.lst 51 h10), (.int IntKind.i64 (0))])))
                         none)
                        none)
                       none)
                      (cond (kind7 == 19)
                       (cond (sm (List.length (bl h1_0)))
                        (cond (sm (List.length (bl (mk (rwS (bl h1_0) h1_1)))))
                         (cond (sm (List.length (bl (mk (rwS (bl (mk (rwS (bl h1_0) h1_1))) (pnB (bl h1_0) h1_1))))))
                          (cond (pnB (bl (mk (rwS (bl (mk (rwS (bl h1_0) h1_1))) (pnB (bl h1_0) h1_1)))) (pnB (bl (mk (rwS (bl h1_0) h1_1))) (pnB (bl h1_0) h1_1)))
                           (some [(.int IntKind.i64 (0)), (.str (mk [])), (.str (mk [])), (.str (mk [])), (.int IntKind.i64 (0)), (.int IntKind.i64 (0)), (.int IntKind.i64 (0)), (.int IntKind.i64 (0)), (.str (mk [])), (.str (mk [])), (.lst 3 []), (.lst 9 []), (.lst 65 []), (.lst 51 []), (.int IntKind.i64 (3))])
                           (cond (!bl (mk (rwS (bl (mk (rwS (bl (mk (rwS (bl h1_0) h1_1))) (pnB (bl h1_0) h1_1)))) (pnB (bl (mk (rwS (bl h1_0) h1_1))) (pnB (bl h1_0) h1_1)))) == bl (mk []))
                            (some [(.int IntKind.i64 (0)), (.str (mk [])), (.str (mk [])), (.str (mk [])), (.int IntKind.i64 (0)), (.int IntKind.i64 (0)), (.int IntKind.i64 (0)), (.int IntKind.i64 (0)), (.str (mk [])), (.str (mk [])), (.lst 3 []), (.lst 9 []), (.lst 65 []), (.lst 51 []), (.int IntKind.i64 (3))])
                            (some [(.int IntKind.i64 (h2_0)), (.str (h2_1)), (.str (h2_2)), (.str (h2_3)), (.int IntKind.i64 (h2_4)), (.int IntKind.i64 (pnV (bl h1_0) h1_1)), (.int IntKind.i64 (pnV (bl (mk (rwS (bl h1_0) h1_1))) (pnB (bl h1_0) h1_1))), (.int IntKind.i64 (pnV (bl (mk (rwS (bl (mk (rwS (bl h1_0) h1_1))) (pnB (bl h1_0) h1_1)))) (pnB (bl (mk (rwS (bl h1_0) h1_1))) (pnB (bl h1_0) h1_1)))), (.str (h2_8)), (.str (h2_9)), (.lst 3 h7), (.lst 9 h8), (.lst 65 h9), (.lst 51 h10), (.int IntKind.i64 (0))])))
                          none)
                         none)
                        none)
                       (cond (h1_1)
                        (some [(.int IntKind.i64 (0)), (.str (mk [])), (.str (mk [])), (.str (mk [])), (.int IntKind.i64 (0)), (.int IntKind.i64 (0)), (.int IntKind.i64 (0)), (.int IntKind.i64 (0)), (.str (mk [])), (.str (mk [])), (.lst 3 []), (.lst 9 []), (.lst 65 []), (.lst 51 []), (.int IntKind.i64 (3))])
                        (cond (!bl h1_0 == bl (mk []))
                         (some [(.int IntKind.i64 (0)), (.str (mk [])), (.str (mk [])), (.str (mk [])), (.int IntKind.i64 (0)), (.int IntKind.i64 (0)), (.int IntKind.i64 (0)), (.int IntKind.i64 (0)), (.str (mk [])), (.str (mk [])), (.lst 3 []), (.lst 9 []), (.lst 65 []), (.lst 51 []), (.int IntKind.i64 (3))])
                         (some [(.int IntKind.i64 (h2_0)), (.str (h2_1)), (.str (h2_2)), (.str (h2_3)), (.int IntKind.i64 (h2_4)), (.int IntKind.i64 (h2_5)), (.int IntKind.i64 (h2_6)), (.int IntKind.i64 (h2_7)), (.str (h2_8)), (.str (h2_9)), (.lst 3 h7), (.lst 9 h8), (.lst 65 h9), (.lst 51 h10), (.int IntKind.i64 (0))])))))))))))))))))))))))) := by kernel_rfl

end Go.Ab
namespace Go.Ab
open Go.Proofs
/-! codesearch/script.lists -/
noncomputable def plists_q10 (h0_0 : ByteArray) (h0_1 : Bool) (h1_0 : Int) (h1_1 : ByteArray) (h1_2 : ByteArray) (h1_3 : ByteArray) (h1_4 : Int) (h1_5 : Int) (h1_6 : Int) (h1_7 : Int) (h1_8 : ByteArray) (h1_9 : ByteArray) (h2 : List (List L)) (h3 : List (List L)) (h4 : List (List L)) (h5 : List (List L)) : Req := .point 39 [(.box [.str, .bool] [.any, .any]), (.box [(.int IntKind.i64), .str, .str, .str, (.int IntKind.i64), (.int IntKind.i64), (.int IntKind.i64), (.int IntKind.i64), .str, .str, (.sl 3), (.sl 9), (.sl 65), (.sl 51)] [.any, .any, .any, .any, .any, .any, .any, .any, .any, .any, .any, .any, .any, .any]), .no, .no, .no, .no] (todoAt Tryz.prog 39 10) ⟨[(.lf (.ptr 0 0)), (.lf (.ptr 1 0)), an, an, an, an, an, an, an, an, an, an, an, an, an, an, an, an, an, an, an, an, an, an, an, an, an, an, an, an, an, an, an, an, an, an, an, an, an, an, an, an, an, an, an, an, an, an, an, an, an, an, an, an, an, an, an, an, an, an, an, an, an, an, an, an, an, an, an, an, an, an, an, an, an, an, an, an, an, an, an, an, an, an, an, an, an, an, an, an, an, an, an, an, an, an, an, an, an, an, an, an, an, an, an, an, an, an, an, an, an, an, an, an, an, an, an, an, an, an, an, an, an, an, an, an, an, an, an, an, an, an, an, an, an, an, an, an, an, an, an, an, an, an, an, an, an, an, an, an, an, an, an, an, an, an, an, an, an, an, an, an, an], [(.box [.str, .bool] [(.str h0_0), (.bool h0_1)]), (.box [(.int IntKind.i64), .str, .str, .str, (.int IntKind.i64), (.int IntKind.i64), (.int IntKind.i64), (.int IntKind.i64), .str, .str, (.sl 3), (.sl 9), (.sl 65), (.sl 51)] [(.int IntKind.i64 h1_0), (.str h1_1), (.str h1_2), (.str h1_3), (.int IntKind.i64 h1_4), (.int IntKind.i64 h1_5), (.int IntKind.i64 h1_6), (.int IntKind.i64 h1_7), (.str h1_8), (.str h1_9), (.row 2), (.row 3), (.row 4), (.row 5)]), (.row 3 h2 true), (.row 9 h3 true), (.row 65 h4 true), (.row 51 h5 true)]⟩
noncomputable def plists_q19 (h0_0 : ByteArray) (h0_1 : Bool) (h1_0 : Int) (h1_1 : ByteArray) (h1_2 : ByteArray) (h1_3 : ByteArray) (h1_4 : Int) (h1_5 : Int) (h1_6 : Int) (h1_7 : Int) (h1_8 : ByteArray) (h1_9 : ByteArray) (h2 : List (List L)) (h3 : List (List L)) (h4 : List (List L)) (h5 : List (List L)) : Req := .point 39 [(.box [.str, .bool] [.any, .any]), (.box [(.int IntKind.i64), .str, .str, .str, (.int IntKind.i64), (.int IntKind.i64), (.int IntKind.i64), (.int IntKind.i64), .str, .str, (.sl 3), (.sl 9), (.sl 65), (.sl 51)] [.any, .any, .any, .any, .any, .any, .any, .any, .any, .any, .any, .any, .any, .any]), .no, .no, .no, .no] (todoAt Tryz.prog 39 19) ⟨[(.lf (.ptr 0 0)), (.lf (.ptr 1 0)), an, an, an, an, an, an, an, an, an, an, an, an, an, an, an, an, an, an, an, an, an, an, an, an, an, an, an, an, an, an, an, an, an, an, an, an, an, an, an, an, an, an, an, an, an, an, an, an, an, an, an, an, an, an, an, an, an, an, an, an, an, an, an, an, an, an, an, an, an, an, an, an, an, an, an, an, an, an, an, an, an, an, an, an, an, an, an, an, an, an, an, an, an, an, an, an, an, an, an, an, an, an, an, an, an, an, an, an, an, an, an, an, an, an, an, an, an, an, an, an, an, an, an, an, an, an, an, an, an, an, an, an, an, an, an, an, an, an, an, an, an, an, an, an, an, an, an, an, an, an, an, an, an, an, an, an, an, an, an, an, an], [(.box [.str, .bool] [(.str h0_0), (.bool h0_1)]), (.box [(.int IntKind.i64), .str, .str, .str, (.int IntKind.i64), (.int IntKind.i64), (.int IntKind.i64), (.int IntKind.i64), .str, .str, (.sl 3), (.sl 9), (.sl 65), (.sl 51)] [(.int IntKind.i64 h1_0), (.str h1_1), (.str h1_2), (.str h1_3), (.int IntKind.i64 h1_4), (.int IntKind.i64 h1_5), (.int IntKind.i64 h1_6), (.int IntKind.i64 h1_7), (.str h1_8), (.str h1_9), (.row 2), (.row 3), (.row 4), (.row 5)]), (.row 3 h2 true), (.row 9 h3 true), (.row 65 h4 true), (.row 51 h5 true)]⟩
noncomputable def plists_q1 (h0_0 : ByteArray) (h0_1 : Bool) (h1_0 : Int) (h1_1 : ByteArray) (h1_2 : ByteArray) (h1_3 : ByteArray) (h1_4 : Int) (h1_5 : Int) (h1_6 : Int) (h1_7 : Int) (h1_8 : ByteArray) (h1_9 : ByteArray) (h2 : List (List L)) (h3 : List (List L)) (h4 : List (List L)) (h5 : List (List L)) : Req := .point 39 [(.box [.str, .bool] [.any, .any]), (.box [(.int IntKind.i64), .str, .str, .str, (.int IntKind.i64), (.int IntKind.i64), (.int IntKind.i64), (.int IntKind.i64), .str, .str, (.sl 3), (.sl 9), (.sl 65), (.sl 51)] [.any, .any, .any, .any, .any, .any, .any, .any, .any, .any, .any, .any, .any, .any]), .no, .no, .no, .no] (todoAt Tryz.prog 39 1) ⟨[(.lf (.ptr 0 0)), (.lf (.ptr 1 0)), an, an, an, an, an, an, an, an, an, an, an, an, an, an, an, an, an, an, an, an, an, an, an, an, an, an, an, an, an, an, an, an, an, an, an, an, an, an, an, an, an, an, an, an, an, an, an, an, an, an, an, an, an, an, an, an, an, an, an, an, an, an, an, an, an, an, an, an, an, an, an, an, an, an, an, an, an, an, an, an, an, an, an, an, an, an, an, an, an, an, an, an, an, an, an, an, an, an, an, an, an, an, an, an, an, an, an, an, an, an, an, an, an, an, an, an, an, an, an, an, an, an, an, an, an, an, an, an, an, an, an, an, an, an, an, an, an, an, an, an, an, an, an, an, an, an, an, an, an, an, an, an, an, an, an, an, an, an, an, an, an], [(.box [.str, .bool] [(.str h0_0), (.bool h0_1)]), (.box [(.int IntKind.i64), .str, .str, .str, (.int IntKind.i64), (.int IntKind.i64), (.int IntKind.i64), (.int IntKind.i64), .str, .str, (.sl 3), (.sl 9), (.sl 65), (.sl 51)] [(.int IntKind.i64 h1_0), (.str h1_1), (.str h1_2), (.str h1_3), (.int IntKind.i64 h1_4), (.int IntKind.i64 h1_5), (.int IntKind.i64 h1_6), (.int IntKind.i64 h1_7), (.str h1_8), (.str h1_9), (.row 2), (.row 3), (.row 4), (.row 5)]), (.row 3 h2 true), (.row 9 h3 true), (.row 65 h4 true), (.row 51 h5 true)]⟩
theorem plists_e (G : Req → R) (k : Int) (s : ByteArray) (b : Bool) : runB (cfg [c_pw, c_pn, c_pt, k_pmore]) G (.enter 39 [(.lf (.ptr 0 0)), (.lf (.ptr 1 0))] [(.box [.str, .bool] [(.str (s)), (.bool (b))]), (.box [(.int IntKind.i64), .str, .str, .str, (.int IntKind.i64), (.int IntKind.i64), (.int IntKind.i64), (.int IntKind.i64), .str, .str, (.sl 3), (.sl 9), (.sl 65), (.sl 51)] [(.int IntKind.i64 (k)), (.str (mk [])), (.str (mk [])), (.str (mk [])), (.int IntKind.i64 (0)), (.int IntKind.i64 (0)), (.int IntKind.i64 (0)), (.int IntKind.i64 (0)), (.str (mk [])), (.str (mk [])), (.row (2)), (.row (3)), (.row (4)), (.row (5))]), (.row 3 [] true), (.row 9 [] true), (.row 65 [] true), (.row 51 [] true)]) =
  (cond (k == 1)
   (cond (sm (List.length (bl s)))
    (cond (sm (List.length (bl (mk (rwS (bl s) b)))))
     (cond (sm (List.length (bl (mk (rwS (bl (mk (rwS (bl s) b))) (pwB (bl s) b))))))
      (G (plists_q10 (mk (rwS (bl (mk (rwS (bl (mk (rwS (bl s) b))) (pwB (bl s) b)))) (pwB (bl (mk (rwS (bl s) b))) (pwB (bl s) b)))) (pnB (bl (mk (rwS (bl (mk (rwS (bl s) b))) (pwB (bl s) b)))) (pwB (bl (mk (rwS (bl s) b))) (pwB (bl s) b))) k (mk (rwW (bl s) b)) (mk (rwW (bl (mk (rwS (bl s) b))) (pwB (bl s) b))) (mk []) (pnV (bl (mk (rwS (bl (mk (rwS (bl s) b))) (pwB (bl s) b)))) (pwB (bl (mk (rwS (bl s) b))) (pwB (bl s) b))) 0 0 0 (mk []) (mk []) [] [] [] []))
      none)
     none)
    none)
   (cond (k == 7)
    (cond (sm (List.length (bl s)))
     (G (plists_q19 (mk (rwS (bl s) b)) (pwB (bl s) b) k (mk []) (mk []) (mk []) 0 0 0 0 (mk []) (mk (rwW (bl s) b)) [] [] [] []))
     none)
    (G (plists_q1 s b k (mk []) (mk []) (mk []) 0 0 0 0 (mk []) (mk []) [] [] [] [])))) := by kernel_rfl
theorem plists_p10 (G : Req → R) (h0_0 : ByteArray) (h0_1 : Bool) (h1_0 : Int) (h1_1 : ByteArray) (h1_2 : ByteArray) (h1_3 : ByteArray) (h1_4 : Int) (h1_5 : Int) (h1_6 : Int) (h1_7 : Int) (h1_8 : ByteArray) (h1_9 : ByteArray) (h2 : List (List L)) (h3 : List (List L)) (h4 : List (List L)) (h5 : List (List L)) : runB (cfg [c_pw, c_pn, c_pt, k_pmore]) G (plists_q10 h0_0 h0_1 h1_0 h1_1 h1_2 h1_3 h1_4 h1_5 h1_6 h1_7 h1_8 h1_9 h2 h3 h4 h5) =
  (cond (!h0_1 && !List.isEmpty (bl h0_0))
   (cond (sm (List.length (bl (mk (bl h0_0)))))
    (cond (bl (mk (rwW (bl (mk (bl h0_0))) h0_1)) == bl (mk [112, 117, 116]))
     (both
      (cond (sm (List.length (bl (mk (rwS (bl (mk (bl h0_0))) h0_1)))))
       (cond (sm (List.length (bl (mk (rwS (bl (mk (rwS (bl (mk (bl h0_0))) h0_1))) (pwB (bl (mk (bl h0_0))) h0_1))))))
        (cond (roomN (List.length h5 + 1) 40)
         (G (plists_q10 (mk (ptS (bl (mk (rwS (bl (mk (rwS (bl (mk (bl h0_0))) h0_1))) (pwB (bl (mk (bl h0_0))) h0_1)))) (pwB (bl (mk (rwS (bl (mk (bl h0_0))) h0_1))) (pwB (bl (mk (bl h0_0))) h0_1)))) (ptB (bl (mk (rwS (bl (mk (rwS (bl (mk (bl h0_0))) h0_1))) (pwB (bl (mk (bl h0_0))) h0_1)))) (pwB (bl (mk (rwS (bl (mk (bl h0_0))) h0_1))) (pwB (bl (mk (bl h0_0))) h0_1))) h1_0 h1_1 h1_2 h1_3 h1_4 h1_5 h1_6 h1_7 h1_8 h1_9 h2 h3 h4 (h5 ++ [[L.str (mk (rwW (bl (mk (rwS (bl (mk (bl h0_0))) h0_1))) (pwB (bl (mk (bl h0_0))) h0_1))), L.str (mk (ptV (bl (mk (rwS (bl (mk (rwS (bl (mk (bl h0_0))) h0_1))) (pwB (bl (mk (bl h0_0))) h0_1)))) (pwB (bl (mk (rwS (bl (mk (bl h0_0))) h0_1))) (pwB (bl (mk (bl h0_0))) h0_1)))), L.bool false]])))
         none)
        none)
       none)
      (cond (sm (List.length (bl (mk (rwS (bl (mk (bl h0_0))) h0_1)))))
       (dupN 1
        (cond (sm (List.length (bl (mk (rwS (bl (mk (rwS (bl (mk (bl h0_0))) h0_1))) (pwB (bl (mk (bl h0_0))) h0_1))))))
         (cond (roomN (List.length h5 + 1) 40)
          (G (plists_q10 (mk (ptS (bl (mk (rwS (bl (mk (rwS (bl (mk (bl h0_0))) h0_1))) (pwB (bl (mk (bl h0_0))) h0_1)))) (pwB (bl (mk (rwS (bl (mk (bl h0_0))) h0_1))) (pwB (bl (mk (bl h0_0))) h0_1)))) (ptB (bl (mk (rwS (bl (mk (rwS (bl (mk (bl h0_0))) h0_1))) (pwB (bl (mk (bl h0_0))) h0_1)))) (pwB (bl (mk (rwS (bl (mk (bl h0_0))) h0_1))) (pwB (bl (mk (bl h0_0))) h0_1))) h1_0 h1_1 h1_2 h1_3 h1_4 h1_5 h1_6 h1_7 h1_8 h1_9 h2 h3 h4 (h5 ++ [[L.str (mk (rwW (bl (mk (rwS (bl (mk (bl h0_0))) h0_1))) (pwB (bl (mk (bl h0_0))) h0_1))), L.str (mk (ptV (bl (mk (rwS (bl (mk (rwS (bl (mk (bl h0_0))) h0_1))) (pwB (bl (mk (bl h0_0))) h0_1)))) (pwB (bl (mk (rwS (bl (mk (bl h0_0))) h0_1))) (pwB (bl (mk (bl h0_0))) h0_1)))), L.bool false]])))
          none)
         none))
       none))
     (cond (bl (mk (rwW (bl (mk (bl h0_0))) h0_1)) == bl (mk [100, 101, 108]))
      (dupN 1
       (cond (sm (List.length (bl (mk (rwS (bl (mk (bl h0_0))) h0_1)))))
        (cond (roomN (List.length h5 + 1) 40)
         (G (plists_q10 (mk (rwS (bl (mk (rwS (bl (mk (bl h0_0))) h0_1))) (pwB (bl (mk (bl h0_0))) h0_1))) (pwB (bl (mk (rwS (bl (mk (bl h0_0))) h0_1))) (pwB (bl (mk (bl h0_0))) h0_1)) h1_0 h1_1 h1_2 h1_3 h1_4 h1_5 h1_6 h1_7 h1_8 h1_9 h2 h3 h4 (h5 ++ [[L.str (mk (rwW (bl (mk (rwS (bl (mk (bl h0_0))) h0_1))) (pwB (bl (mk (bl h0_0))) h0_1))), L.str (mk []), L.bool true]])))
         none)
        none))
      (G (plists_q10 (mk (rwS (bl (mk (bl h0_0))) h0_1)) true h1_0 h1_1 h1_2 h1_3 h1_4 h1_5 h1_6 h1_7 h1_8 h1_9 h2 h3 h4 h5))))
    none)
   (some [(.str (mk (bl h0_0))), (.bool (h0_1)), (.int IntKind.i64 (h1_0)), (.str (h1_1)), (.str (h1_2)), (.str (h1_3)), (.int IntKind.i64 (h1_4)), (.int IntKind.i64 (h1_5)), (.int IntKind.i64 (h1_6)), (.int IntKind.i64 (h1_7)), (.str (h1_8)), (.str (h1_9)), (.lst 3 h2), (.lst 9 h3), (.lst 65 h4), (.lst 51 h5)])) := by kernel_rfl
theorem plists_p19 (G : Req → R) (h0_0 : ByteArray) (h0_1 : Bool) (h1_0 : Int) (h1_1 : ByteArray) (h1_2 : ByteArray) (h1_3 : ByteArray) (h1_4 : Int) (h1_5 : Int) (h1_6 : Int) (h1_7 : Int) (h1_8 : ByteArray) (h1_9 : ByteArray) (h2 : List (List L)) (h3 : List (List L)) (h4 : List (List L)) (h5 : List (List L)) : runB (cfg [c_pw, c_pn, c_pt, k_pmore]) G (plists_q19 h0_0 h0_1 h1_0 h1_1 h1_2 h1_3 h1_4 h1_5 h1_6 h1_7 h1_8 h1_9 h2 h3 h4 h5) =
  (cond (!h0_1 && !List.isEmpty (bl h0_0))
   (cond (sm (List.length (bl (mk (bl h0_0)))))
    (cond (bl (mk (rwW (bl (mk (bl h0_0))) h0_1)) == bl (mk [117, 115, 101, 114]))
     (cond ((↑(List.length h3) : Int) == 0)
      (dupN 1
       (cond (sm (List.length (bl (mk (rwS (bl (mk (bl h0_0))) h0_1)))))
        (cond (roomN (List.length h2 + 1) 8)
         (G (plists_q19 (mk (rwS (bl (mk (rwS (bl (mk (bl h0_0))) h0_1))) (pwB (bl (mk (bl h0_0))) h0_1))) (pnB (bl (mk (rwS (bl (mk (bl h0_0))) h0_1))) (pwB (bl (mk (bl h0_0))) h0_1)) h1_0 h1_1 h1_2 h1_3 h1_4 h1_5 h1_6 h1_7 h1_8 h1_9 (h2 ++ [[L.int IntKind.i64 (pnV (bl (mk (rwS (bl (mk (bl h0_0))) h0_1))) (pwB (bl (mk (bl h0_0))) h0_1))]]) h3 h4 h5))
         none)
        none))
      (cond (bl (mk (rwW (bl (mk (bl h0_0))) h0_1)) == bl (mk [103, 114, 111, 117, 112]))
       (dupN 1
        (cond (sm (List.length (bl (mk (rwS (bl (mk (bl h0_0))) h0_1)))))
         (cond (roomN (List.length h3 + 1) 16)
          (G (plists_q19 (mk (rwS (bl (mk (rwS (bl (mk (bl h0_0))) h0_1))) (pwB (bl (mk (bl h0_0))) h0_1))) (pwB (bl (mk (rwS (bl (mk (bl h0_0))) h0_1))) (pwB (bl (mk (bl h0_0))) h0_1)) h1_0 h1_1 h1_2 h1_3 h1_4 h1_5 h1_6 h1_7 h1_8 h1_9 h2 (h3 ++ [[L.str (mk (rwW (bl (mk (rwS (bl (mk (bl h0_0))) h0_1))) (pwB (bl (mk (bl h0_0))) h0_1)))]]) h4 h5))
          none)
         none))
       (G (plists_q19 (mk (rwS (bl (mk (bl h0_0))) h0_1)) true h1_0 h1_1 h1_2 h1_3 h1_4 h1_5 h1_6 h1_7 h1_8 h1_9 h2 h3 h4 h5))))
     (cond (bl (mk (rwW (bl (mk (bl h0_0))) h0_1)) == bl (mk [103, 114, 111, 117, 112]))
      (dupN 1
       (cond (sm (List.length (bl (mk (rwS (bl (mk (bl h0_0))) h0_1)))))
        (cond (roomN (List.length h3 + 1) 16)
         (G (plists_q19 (mk (rwS (bl (mk (rwS (bl (mk (bl h0_0))) h0_1))) (pwB (bl (mk (bl h0_0))) h0_1))) (pwB (bl (mk (rwS (bl (mk (bl h0_0))) h0_1))) (pwB (bl (mk (bl h0_0))) h0_1)) h1_0 h1_1 h1_2 h1_3 h1_4 h1_5 h1_6 h1_7 h1_8 h1_9 h2 (h3 ++ [[L.str (mk (rwW (bl (mk (rwS (bl (mk (bl h0_0))) h0_1))) (pwB (bl (mk (bl h0_0))) h0_1)))]]) h4 h5))
         none)
        none))
      (G (plists_q19 (mk (rwS (bl (mk (bl h0_0))) h0_1)) true h1_0 h1_1 h1_2 h1_3 h1_4 h1_5 h1_6 h1_7 h1_8 h1_9 h2 h3 h4 h5))))
    none)
   (some [(.str (mk (bl h0_0))), (.bool (h0_1)), (.int IntKind.i64 (h1_0)), (.str (h1_1)), (.str (h1_2)), (.str (h1_3)), (.int IntKind.i64 (h1_4)), (.int IntKind.i64 (h1_5)), (.int IntKind.i64 (h1_6)), (.int IntKind.i64 (h1_7)), (.str (h1_8)), (.str (h1_9)), (.lst 3 h2), (.lst 9 h3), (.lst 65 h4), (.lst 51 h5)])) := by kernel_rfl
theorem plists_p1 (G : Req → R) (h0_0 : ByteArray) (h0_1 : Bool) (h1_0 : Int) (h1_1 : ByteArray) (h1_2 : ByteArray) (h1_3 : ByteArray) (h1_4 : Int) (h1_5 : Int) (h1_6 : Int) (h1_7 : Int) (h1_8 : ByteArray) (h1_9 : ByteArray) (h2 : List (List L)) (h3 : List (List L)) (h4 : List (List L)) (h5 : List (List L)) : runB (cfg [c_pw, c_pn, c_pt, k_pmore]) G (plists_q1 h0_0 h0_1 h1_0 h1_1 h1_2 h1_3 h1_4 h1_5 h1_6 h1_7 h1_8 h1_9 h2 h3 h4 h5) =
  (cond (!h0_1 && !List.isEmpty (bl h0_0))
   (cond (sm (List.length (bl (mk (bl h0_0)))))
    (cond (sm (List.length (bl (mk (rwS (bl (mk (bl h0_0))) h0_1)))))
     (cond (sm (List.length (bl (mk (rwS (bl (mk (rwS (bl (mk (bl h0_0))) h0_1))) (pwB (bl (mk (bl h0_0))) h0_1))))))
      (cond (sm (List.length (bl (mk (rwS (bl (mk (rwS (bl (mk (rwS (bl (mk (bl h0_0))) h0_1))) (pwB (bl (mk (bl h0_0))) h0_1)))) (pwB (bl (mk (rwS (bl (mk (bl h0_0))) h0_1))) (pwB (bl (mk (bl h0_0))) h0_1)))))))
       (cond (bl (mk (rwW (bl (mk (rwS (bl (mk (rwS (bl (mk (bl h0_0))) h0_1))) (pwB (bl (mk (bl h0_0))) h0_1)))) (pwB (bl (mk (rwS (bl (mk (bl h0_0))) h0_1))) (pwB (bl (mk (bl h0_0))) h0_1)))) == bl (mk [45]))
        (cond (pwB (bl (mk (rwS (bl (mk (rwS (bl (mk (rwS (bl (mk (bl h0_0))) h0_1))) (pwB (bl (mk (bl h0_0))) h0_1)))) (pwB (bl (mk (rwS (bl (mk (bl h0_0))) h0_1))) (pwB (bl (mk (bl h0_0))) h0_1))))) (pwB (bl (mk (rwS (bl (mk (rwS (bl (mk (bl h0_0))) h0_1))) (pwB (bl (mk (bl h0_0))) h0_1)))) (pwB (bl (mk (rwS (bl (mk (bl h0_0))) h0_1))) (pwB (bl (mk (bl h0_0))) h0_1))))
         (cond (roomN (List.length h4 + 1) 56)
          (G (plists_q1 (mk (rwS (bl (mk (rwS (bl (mk (rwS (bl (mk (rwS (bl (mk (bl h0_0))) h0_1))) (pwB (bl (mk (bl h0_0))) h0_1)))) (pwB (bl (mk (rwS (bl (mk (bl h0_0))) h0_1))) (pwB (bl (mk (bl h0_0))) h0_1))))) (pwB (bl (mk (rwS (bl (mk (rwS (bl (mk (bl h0_0))) h0_1))) (pwB (bl (mk (bl h0_0))) h0_1)))) (pwB (bl (mk (rwS (bl (mk (bl h0_0))) h0_1))) (pwB (bl (mk (bl h0_0))) h0_1))))) true h1_0 h1_1 h1_2 h1_3 h1_4 h1_5 h1_6 h1_7 h1_8 h1_9 h2 h3 (h4 ++ [[L.bool (bl (mk (rwW (bl (mk (bl h0_0))) h0_1)) == bl (mk [97, 108, 108, 111, 119])), L.str (mk (rwW (bl (mk (rwS (bl (mk (bl h0_0))) h0_1))) (pwB (bl (mk (bl h0_0))) h0_1))), L.str (mk []), L.str (mk (rwW (bl (mk (rwS (bl (mk (rwS (bl (mk (rwS (bl (mk (bl h0_0))) h0_1))) (pwB (bl (mk (bl h0_0))) h0_1)))) (pwB (bl (mk (rwS (bl (mk (bl h0_0))) h0_1))) (pwB (bl (mk (bl h0_0))) h0_1))))) (pwB (bl (mk (rwS (bl (mk (rwS (bl (mk (bl h0_0))) h0_1))) (pwB (bl (mk (bl h0_0))) h0_1)))) (pwB (bl (mk (rwS (bl (mk (bl h0_0))) h0_1))) (pwB (bl (mk (bl h0_0))) h0_1)))))]]) h5))
          none)
         (cond (!bl (mk (rwW (bl (mk (bl h0_0))) h0_1)) == bl (mk [97, 108, 108, 111, 119]))
          (cond (roomN (List.length h4 + 1) 56)
           (G (plists_q1 (mk (rwS (bl (mk (rwS (bl (mk (rwS (bl (mk (rwS (bl (mk (bl h0_0))) h0_1))) (pwB (bl (mk (bl h0_0))) h0_1)))) (pwB (bl (mk (rwS (bl (mk (bl h0_0))) h0_1))) (pwB (bl (mk (bl h0_0))) h0_1))))) (pwB (bl (mk (rwS (bl (mk (rwS (bl (mk (bl h0_0))) h0_1))) (pwB (bl (mk (bl h0_0))) h0_1)))) (pwB (bl (mk (rwS (bl (mk (bl h0_0))) h0_1))) (pwB (bl (mk (bl h0_0))) h0_1))))) (!bl (mk (rwW (bl (mk (bl h0_0))) h0_1)) == bl (mk [100, 101, 110, 121])) h1_0 h1_1 h1_2 h1_3 h1_4 h1_5 h1_6 h1_7 h1_8 h1_9 h2 h3 (h4 ++ [[L.bool (bl (mk (rwW (bl (mk (bl h0_0))) h0_1)) == bl (mk [97, 108, 108, 111, 119])), L.str (mk (rwW (bl (mk (rwS (bl (mk (bl h0_0))) h0_1))) (pwB (bl (mk (bl h0_0))) h0_1))), L.str (mk []), L.str (mk (rwW (bl (mk (rwS (bl (mk (rwS (bl (mk (rwS (bl (mk (bl h0_0))) h0_1))) (pwB (bl (mk (bl h0_0))) h0_1)))) (pwB (bl (mk (rwS (bl (mk (bl h0_0))) h0_1))) (pwB (bl (mk (bl h0_0))) h0_1))))) (pwB (bl (mk (rwS (bl (mk (rwS (bl (mk (bl h0_0))) h0_1))) (pwB (bl (mk (bl h0_0))) h0_1)))) (pwB (bl (mk (rwS (bl (mk (bl h0_0))) h0_1))) (pwB (bl (mk (bl h0_0))) h0_1)))))]]) h5))
           none)
          (cond (roomN (List.length h4 + 1) 56)
           (G (plists_q1 (mk (rwS (bl (mk (rwS (bl (mk (rwS (bl (mk (rwS (bl (mk (bl h0_0))) h0_1))) (pwB (bl (mk (bl h0_0))) h0_1)))) (pwB (bl (mk (rwS (bl (mk (bl h0_0))) h0_1))) (pwB (bl (mk (bl h0_0))) h0_1))))) (pwB (bl (mk (rwS (bl (mk (rwS (bl (mk (bl h0_0))) h0_1))) (pwB (bl (mk (bl h0_0))) h0_1)))) (pwB (bl (mk (rwS (bl (mk (bl h0_0))) h0_1))) (pwB (bl (mk (bl h0_0))) h0_1))))) false h1_0 h1_1 h1_2 h1_3 h1_4 h1_5 h1_6 h1_7 h1_8 h1_9 h2 h3 (h4 ++ [[L.bool (bl (mk (rwW (bl (mk (bl h0_0))) h0_1)) == bl (mk [97, 108, 108, 111, 119])), L.str (mk (rwW (bl (mk (rwS (bl (mk (bl h0_0))) h0_1))) (pwB (bl (mk (bl h0_0))) h0_1))), L.str (mk []), L.str (mk (rwW (bl (mk (rwS (bl (mk (rwS (bl (mk (rwS (bl (mk (bl h0_0))) h0_1))) (pwB (bl (mk (bl h0_0))) h0_1)))) (pwB (bl (mk (rwS (bl (mk (bl h0_0))) h0_1))) (pwB (bl (mk (bl h0_0))) h0_1))))) (pwB (bl (mk (rwS (bl (mk (rwS (bl (mk (bl h0_0))) h0_1))) (pwB (bl (mk (bl h0_0))) h0_1)))) (pwB (bl (mk (rwS (bl (mk (bl h0_0))) h0_1))) (pwB (bl (mk (bl h0_0))) h0_1)))))]]) h5))
           none)))
        (cond (pwB (bl (mk (rwS (bl (mk (rwS (bl (mk (rwS (bl (mk (bl h0_0))) h0_1))) (pwB (bl (mk (bl h0_0))) h0_1)))) (pwB (bl (mk (rwS (bl (mk (bl h0_0))) h0_1))) (pwB (bl (mk (bl h0_0))) h0_1))))) (pwB (bl (mk (rwS (bl (mk (rwS (bl (mk (bl h0_0))) h0_1))) (pwB (bl (mk (bl h0_0))) h0_1)))) (pwB (bl (mk (rwS (bl (mk (bl h0_0))) h0_1))) (pwB (bl (mk (bl h0_0))) h0_1))))
         (cond (roomN (List.length h4 + 1) 56)
          (G (plists_q1 (mk (rwS (bl (mk (rwS (bl (mk (rwS (bl (mk (rwS (bl (mk (bl h0_0))) h0_1))) (pwB (bl (mk (bl h0_0))) h0_1)))) (pwB (bl (mk (rwS (bl (mk (bl h0_0))) h0_1))) (pwB (bl (mk (bl h0_0))) h0_1))))) (pwB (bl (mk (rwS (bl (mk (rwS (bl (mk (bl h0_0))) h0_1))) (pwB (bl (mk (bl h0_0))) h0_1)))) (pwB (bl (mk (rwS (bl (mk (bl h0_0))) h0_1))) (pwB (bl (mk (bl h0_0))) h0_1))))) true h1_0 h1_1 h1_2 h1_3 h1_4 h1_5 h1_6 h1_7 h1_8 h1_9 h2 h3 (h4 ++ [[L.bool (bl (mk (rwW (bl (mk (bl h0_0))) h0_1)) == bl (mk [97, 108, 108, 111, 119])), L.str (mk (rwW (bl (mk (rwS (bl (mk (bl h0_0))) h0_1))) (pwB (bl (mk (bl h0_0))) h0_1))), L.str (mk (rwW (bl (mk (rwS (bl (mk (rwS (bl (mk (bl h0_0))) h0_1))) (pwB (bl (mk (bl h0_0))) h0_1)))) (pwB (bl (mk (rwS (bl (mk (bl h0_0))) h0_1))) (pwB (bl (mk (bl h0_0))) h0_1)))), L.str (mk (rwW (bl (mk (rwS (bl (mk (rwS (bl (mk (rwS (bl (mk (bl h0_0))) h0_1))) (pwB (bl (mk (bl h0_0))) h0_1)))) (pwB (bl (mk (rwS (bl (mk (bl h0_0))) h0_1))) (pwB (bl (mk (bl h0_0))) h0_1))))) (pwB (bl (mk (rwS (bl (mk (rwS (bl (mk (bl h0_0))) h0_1))) (pwB (bl (mk (bl h0_0))) h0_1)))) (pwB (bl (mk (rwS (bl (mk (bl h0_0))) h0_1))) (pwB (bl (mk (bl h0_0))) h0_1)))))]]) h5))
          none)
         (cond (!bl (mk (rwW (bl (mk (bl h0_0))) h0_1)) == bl (mk [97, 108, 108, 111, 119]))
          (cond (roomN (List.length h4 + 1) 56)
           (G (plists_q1 (mk (rwS (bl (mk (rwS (bl (mk (rwS (bl (mk (rwS (bl (mk (bl h0_0))) h0_1))) (pwB (bl (mk (bl h0_0))) h0_1)))) (pwB (bl (mk (rwS (bl (mk (bl h0_0))) h0_1))) (pwB (bl (mk (bl h0_0))) h0_1))))) (pwB (bl (mk (rwS (bl (mk (rwS (bl (mk (bl h0_0))) h0_1))) (pwB (bl (mk (bl h0_0))) h0_1)))) (pwB (bl (mk (rwS (bl (mk (bl h0_0))) h0_1))) (pwB (bl (mk (bl h0_0))) h0_1))))) (!bl (mk (rwW (bl (mk (bl h0_0))) h0_1)) == bl (mk [100, 101, 110, 121])) h1_0 h1_1 h1_2 h1_3 h1_4 h1_5 h1_6 h1_7 h1_8 h1_9 h2 h3 (h4 ++ [[L.bool (bl (mk (rwW (bl (mk (bl h0_0))) h0_1)) == bl (mk [97, 108, 108, 111, 119])), L.str (mk (rwW (bl (mk (rwS (bl (mk (bl h0_0))) h0_1))) (pwB (bl (mk (bl h0_0))) h0_1))), L.str (mk (rwW (bl (mk (rwS (bl (mk (rwS (bl (mk (bl h0_0))) h0_1))) (pwB (bl (mk (bl h0_0))) h0_1)))) (pwB (bl (mk (rwS (bl (mk (bl h0_0))) h0_1))) (pwB (bl (mk (bl h0_0))) h0_1)))), L.str (mk (rwW (bl (mk (rwS (bl (mk (rwS (bl (mk (rwS (bl (mk (bl h0_0))) h0_1))) (pwB (bl (mk (bl h0_0))) h0_1)))) (pwB (bl (mk (rwS (bl (mk (bl h0_0))) h0_1))) (pwB (bl (mk (bl h0_0))) h0_1))))) (pwB (bl (mk (rwS (bl (mk (rwS (bl (mk (bl h0_0))) h0_1))) (pwB (bl (mk (bl h0_0))) h0_1)))) (pwB (bl (mk (rwS (bl (mk (bl h0_0))) h0_1))) (pwB (bl (mk (bl h0_0))) h0_1)))))]]) h5))
           none)
          (cond (roomN (List.length h4 + 1) 56)
           (G (plists_q1 (mk (rwS (bl (mk (rwS (bl (mk (rwS (bl (mk (rwS (bl (mk (bl h0_0))) h0_1))) (pwB (bl (mk (bl h0_0))) h0_1)))) (pwB (bl (mk (rwS (bl (mk (bl h0_0))) h0_1))) (pwB (bl (mk (bl h0_0))) h0_1))))) (pwB (bl (mk (rwS (bl (mk (rwS (bl (mk (bl h0_0))) h0_1))) (pwB (bl (mk (bl h0_0))) h0_1)))) (pwB (bl (mk (rwS (bl (mk (bl h0_0))) h0_1))) (pwB (bl (mk (bl h0_0))) h0_1))))) false h1_0 h1_1 h1_2 h1_3 h1_4 h1_5 h1_6 h1_7 h1_8 h1_9 h2 h3 (h4 ++ [[L.bool (bl (mk (rwW (bl (mk (bl h0_0))) h0_1)) == bl (mk [97, 108, 108, 111, 119])), L.str (mk (rwW (bl (mk (rwS (bl (mk (bl h0_0))) h0_1))) (pwB (bl (mk (bl h0_0))) h0_1))), L.str (mk (rwW (bl (mk (rwS (bl (mk (rwS (bl (mk (bl h0_0))) h0_1))) (pwB (bl (mk (bl h0_0))) h0_1)))) (pwB (bl (mk (rwS (bl (mk (bl h0_0))) h0_1))) (pwB (bl (mk (bl h0_0))) h0_1)))), L.str (mk (rwW (bl (mk (rwS (bl (mk (rwS (bl (mk (rwS (bl (mk (bl h0_0))) h0_1))) (pwB (bl (mk (bl h0_0))) h0_1)))) (pwB (bl (mk (rwS (bl (mk (bl h0_0))) h0_1))) (pwB (bl (mk (bl h0_0))) h0_1))))) (pwB (bl (mk (rwS (bl (mk (rwS (bl (mk (bl h0_0))) h0_1))) (pwB (bl (mk (bl h0_0))) h0_1)))) (pwB (bl (mk (rwS (bl (mk (bl h0_0))) h0_1))) (pwB (bl (mk (bl h0_0))) h0_1)))))]]) h5))
           none))))
       none)
      none)
     none)
    none)
   (some [(.str (mk (bl h0_0))), (.bool (h0_1)), (.int IntKind.i64 (h1_0)), (.str (h1_1)), (.str (h1_2)), (.str (h1_3)), (.int IntKind.i64 (h1_4)), (.int IntKind.i64 (h1_5)), (.int IntKind.i64 (h1_6)), (.int IntKind.i64 (h1_7)), (.str (h1_8)), (.str (h1_9)), (.lst 3 h2), (.lst 9 h3), (.lst 65 h4), (.lst 51 h5)])) := by kernel_rfl

end Go.Ab
namespace Go.Ab
open Go.Proofs

theorem rwS_le (s : W) (b : Bool) : (rwS s b).length ≤ s.length := by
  unfold rwS
  cases nxO s b
  · exact Nat.le_refl _
  · show ((s.drop 1).drop _).length ≤ _
    rw [List.length_drop, List.length_drop]; omega
theorem ptS_le (s : W) (b : Bool) : (ptS s b).length ≤ s.length := by
  unfold ptS
  cases nxO s b
  · exact Nat.le_refl _
  · have := tR_le (s.drop 1)
    rw [List.length_drop] at this
    show (tR (s.drop 1)).length ≤ _
    omega
def Fl (f : Nat) (x : Rs) : Prop := x.1.length < f ∨ x.2 = true
theorem nxO_t (s : W) : nxO s true = false := rfl
theorem fl_sW {f : Nat} {x : Rs} (h : Fl f x) : Fl f (sW x) := by
  rcases h with h | h
  · exact .inl (Nat.lt_of_le_of_lt (rwS_le _ _) h)
  · right
    show pwB x.1 x.2 = true
    rw [h]; rfl
theorem fl_sN {f : Nat} {x : Rs} (h : Fl f x) : Fl f (sN x) := by
  rcases h with h | h
  · exact .inl (Nat.lt_of_le_of_lt (rwS_le _ _) h)
  · right
    show pnB x.1 x.2 = true
    rw [h]; rfl
theorem fl_sT {f : Nat} {x : Rs} (h : Fl f x) : Fl f (sT x) := by
  rcases h with h | h
  · exact .inl (Nat.lt_of_le_of_lt (ptS_le _ _) h)
  · right
    show ptB x.1 x.2 = true
    rw [h]; rfl
theorem fl_mo {f : Nat} {x : Rs} (h : Fl (f + 1) x) (hm : mo x = true) : Fl f (sW x) := by
  obtain ⟨s, b⟩ := x
  obtain ⟨rfl, hne⟩ := mo_f hm
  have h : s.length < f + 1 := h.resolve_right (fun h => by cases h)
  cases hb : isBlk s
  · right
    show pwB s false = true
    unfold pwB nxO
    rw [hb]; rfl
  · left
    show (rwS s false).length < f
    unfold rwS nxO
    rw [hb]
    show ((s.drop 1).drop _).length < f
    have := List.length_pos_iff.2 hne
    rw [List.length_drop, List.length_drop]; omega
noncomputable abbrev cl : Cfg := cfg [c_pw, c_pn, c_pt, k_pmore]

section
variable (k : Int) (a1 a2 a3 : ByteArray) (a4 a5 a6 a7 : Int) (a8 a9 : ByteArray)
def bxR (x : Rs) (h2 h3 h4 h5 : List (List L)) : List L := [.str (mk x.1), .bool x.2, .int .i64 k, .str a1, .str a2, .str a3, .int .i64 a4, .int .i64 a5, .int .i64 a6, .int .i64 a7, .str a8, .str a9, .lst 3 h2, .lst 9 h3, .lst 65 h4, .lst 51 h5]
theorem plists_W (h2 h3 h4 : List (List L)) : ∀ (f : Nat) (x : Rs) (a : List Wr), Fl f x → x.1.length ≤ 1000000 → a.length + f ≤ 1000002 →
    Runs cl (plists_q10 (mk x.1) x.2 k a1 a2 a3 a4 a5 a6 a7 a8 a9 h2 h3 h4 (eWs a)) (bxR k a1 a2 a3 a4 a5 a6 a7 a8 a9 (lpW f x a).2 h2 h3 h4 (eWs (lpW f x a).1))
  | 0, (s, b), a, h, _, _ => by
    have hb : b = true := h.resolve_left (Nat.not_lt_zero _)
    subst hb
    exact Runs.by (plists_p10 · _ _ _ _ _ _ _ _ _ _ _ _ _ _ _ _) .ret
  | f + 1, (s, b), a, h, h1, hf => by
    have h1 : s.length ≤ 1000000 := h1
    refine Runs.by (plists_p10 · _ _ _ _ _ _ _ _ _ _ _ _ _ _ _ _) ?_
    simp only [bm, eWs_len, dupN_eq]
    cases hm : mo (s, b) with
    | false =>
      have e : lpW (f + 1) (s, b) a = (a, (s, b)) := by rw [lpW, hm]; rfl
      have hm' : (!b && !List.isEmpty s) = false := hm
      rw [e, hm']
      exact .ret
    | true =>
      have hm' : (!b && !List.isEmpty s) = true := hm
      rw [hm', sm_t h1]
      have l1 := rwS_le s b
      have l2 := rwS_le (rwS s b) (pwB s b)
      have l3 := ptS_le (rwS (rwS s b) (pwB s b)) (pwB (rwS s b) (pwB s b))
      have rm : roomN (a.length + 1) 40 = true := roomN_t (by omega) (by omega)
      have hn := fl_mo h hm
      simp only [cond_true, sm_t (show (rwS s b).length ≤ 1000000 by omega), sm_t (show (rwS (rwS s b) (pwB s b)).length ≤ 1000000 by omega), rm, both_self]
      refine RunsF.cond (fun hp => ?_) (fun hp => ?_)
      · have e : lpW (f + 1) (s, b) a = lpW f (sT (sW (sW (s, b)))) (a ++ [(vW (sW (s, b)), vT (sW (sW (s, b))), false)]) := by
          rw [lpW, hm, show (vW (s, b) == wPut) = true from hp]; rfl
        rw [e]
        exact .go (by
          have := plists_W h2 h3 h4 f (sT (sW (sW (s, b)))) (a ++ [(vW (sW (s, b)), vT (sW (sW (s, b))), false)]) (fl_sT (fl_sW hn)) (by show (ptS _ _).length ≤ _; exact Nat.le_trans l3 (by omega)) (by simp; omega)
          conv at this => arg 2; rw [← eWs_snoc]
          exact this)
      · refine RunsF.cond (fun hd => ?_) (fun hd => ?_)
        · have e : lpW (f + 1) (s, b) a = lpW f (sW (sW (s, b))) (a ++ [(vW (sW (s, b)), [], true)]) := by
            rw [lpW, hm, show (vW (s, b) == wPut) = false from hp, show (vW (s, b) == wDel) = true from hd]; rfl
          rw [e]
          exact .go (by
            have := plists_W h2 h3 h4 f (sW (sW (s, b))) (a ++ [(vW (sW (s, b)), [], true)]) (fl_sW hn) (by show (rwS _ _).length ≤ _; exact Nat.le_trans l2 (by omega)) (by simp; omega)
            conv at this => arg 2; rw [← eWs_snoc]
            exact this)
        · have e : lpW (f + 1) (s, b) a = lpW f ((sW (s, b)).1, true) a := by
            rw [lpW, hm, show (vW (s, b) == wPut) = false from hp, show (vW (s, b) == wDel) = false from hd]; rfl
          rw [e]
          exact .go (plists_W h2 h3 h4 f ((sW (s, b)).1, true) a (.inr rfl) (Nat.le_trans l1 h1) (by omega))
theorem plists_G (h4 h5 : List (List L)) : ∀ (f : Nat) (x : Rs) (u : List Int) (g : List W), Fl f x → x.1.length ≤ 1000000 → u.length + f ≤ 1000002 → g.length + f ≤ 1000002 →
    Runs cl (plists_q19 (mk x.1) x.2 k a1 a2 a3 a4 a5 a6 a7 a8 a9 (eIs u) (eSs g) h4 h5) (bxR k a1 a2 a3 a4 a5 a6 a7 a8 a9 (lpG f x u g).2 (eIs (lpG f x u g).1.1) (eSs (lpG f x u g).1.2) h4 h5)
  | 0, (s, b), u, g, h, _, _, _ => by
    have hb : b = true := h.resolve_left (Nat.not_lt_zero _)
    subst hb
    exact Runs.by (plists_p19 · _ _ _ _ _ _ _ _ _ _ _ _ _ _ _ _) .ret
  | f + 1, (s, b), u, g, h, h1, hf, hf' => by
    have h1 : s.length ≤ 1000000 := h1
    refine Runs.by (plists_p19 · _ _ _ _ _ _ _ _ _ _ _ _ _ _ _ _) ?_
    simp only [bm, eIs_len, eSs_len, dupN_eq]
    cases hm : mo (s, b) with
    | false =>
      have e : lpG (f + 1) (s, b) u g = ((u, g), (s, b)) := by rw [lpG, hm]; rfl
      have hm' : (!b && !List.isEmpty s) = false := hm
      rw [e, hm']
      exact .ret
    | true =>
      have hm' : (!b && !List.isEmpty s) = true := hm
      rw [hm', sm_t h1]
      have l1 := rwS_le s b
      have l2 := rwS_le (rwS s b) (pwB s b)
      have rm : roomN (u.length + 1) 8 = true := roomN_t (by omega) (by omega)
      have rm2 : roomN (g.length + 1) 16 = true := roomN_t (by omega) (by omega)
      have hn := fl_mo h hm
      simp only [cond_true, sm_t (show (rwS s b).length ≤ 1000000 by omega), rm, rm2]
      have goG : (vW (s, b) == wUser && g.isEmpty) = false → RunsF cl (fun G => cond (rwW s b == [103, 114, 111, 117, 112])
          (G (plists_q19 (mk (rwS (rwS s b) (pwB s b))) (pwB (rwS s b) (pwB s b)) k a1 a2 a3 a4 a5 a6 a7 a8 a9 (eIs u) (eSs g ++ [[.str (mk (rwW (rwS s b) (pwB s b)))]]) h4 h5))
          (G (plists_q19 (mk (rwS s b)) true k a1 a2 a3 a4 a5 a6 a7 a8 a9 (eIs u) (eSs g) h4 h5))) (bxR k a1 a2 a3 a4 a5 a6 a7 a8 a9 (lpG (f + 1) (s, b) u g).2 (eIs (lpG (f + 1) (s, b) u g).1.1) (eSs (lpG (f + 1) (s, b) u g).1.2) h4 h5) := fun hu => by
        refine RunsF.cond (fun hd => ?_) (fun hd => ?_)
        · have e : lpG (f + 1) (s, b) u g = lpG f (sW (sW (s, b))) u (g ++ [vW (sW (s, b))]) := by
            rw [lpG, hm, hu, show (vW (s, b) == wGroup) = true from hd]; rfl
          rw [e]
          exact .go (by
            have := plists_G h4 h5 f (sW (sW (s, b))) u (g ++ [vW (sW (s, b))]) (fl_sW hn) (by show (rwS _ _).length ≤ _; exact Nat.le_trans l2 (by omega)) (by omega) (by simp; omega)
            conv at this => arg 2; rw [← eSs_snoc]
            exact this)
        · have e : lpG (f + 1) (s, b) u g = lpG f ((sW (s, b)).1, true) u g := by
            rw [lpG, hm, hu, show (vW (s, b) == wGroup) = false from hd]; rfl
          rw [e]
          exact .go (plists_G h4 h5 f ((sW (s, b)).1, true) u g (.inr rfl) (Nat.le_trans l1 h1) (by omega) (by omega))
      have hg0 : (((g.length : Nat) : Int) == 0) = g.isEmpty := by
        cases g with
        | nil => rfl
        | cons a l => show (((l.length + 1 : Nat) : Int) == 0) = false; simp; omega
      simp only [hg0]
      refine RunsF.cond (fun hp => ?_) (fun hp => ?_)
      · refine RunsF.cond (fun hg => ?_) (fun hg => ?_)
        · have e : lpG (f + 1) (s, b) u g = lpG f (sN (sW (s, b))) (u ++ [vN (sW (s, b))]) g := by
            rw [lpG, hm, show (vW (s, b) == wUser) = true from hp, hg]; rfl
          rw [e]
          exact .go (by
            have := plists_G h4 h5 f (sN (sW (s, b))) (u ++ [vN (sW (s, b))]) g (fl_sN hn) (by show (rwS _ _).length ≤ _; exact Nat.le_trans l2 (by omega)) (by simp; omega) (by omega)
            conv at this => arg 2; rw [← eIs_snoc]
            exact this)
        · exact goG (by rw [hg, Bool.and_false])
      · exact goG (by rw [show (vW (s, b) == wUser) = false from hp]; rfl)
theorem plists_R (h2 h3 h5 : List (List L)) : ∀ (f : Nat) (x : Rs) (a : List Ru), Fl f x → x.1.length ≤ 1000000 → a.length + f ≤ 1000002 →
    Runs cl (plists_q1 (mk x.1) x.2 k a1 a2 a3 a4 a5 a6 a7 a8 a9 h2 h3 (eRs a) h5) (bxR k a1 a2 a3 a4 a5 a6 a7 a8 a9 (lpR f x a).2 h2 h3 (eRs (lpR f x a).1) h5)
  | 0, (s, b), a, h, _, _ => by
    have hb : b = true := h.resolve_left (Nat.not_lt_zero _)
    subst hb
    exact Runs.by (plists_p1 · _ _ _ _ _ _ _ _ _ _ _ _ _ _ _ _) .ret
  | f + 1, (s, b), a, h, h1, hf => by
    have h1 : s.length ≤ 1000000 := h1
    refine Runs.by (plists_p1 · _ _ _ _ _ _ _ _ _ _ _ _ _ _ _ _) ?_
    simp only [bm, eRs_len]
    cases hm : mo (s, b) with
    | false =>
      have e : lpR (f + 1) (s, b) a = (a, (s, b)) := by rw [lpR, hm]; rfl
      have hm' : (!b && !List.isEmpty s) = false := hm
      rw [e, hm']
      exact .ret
    | true =>
      have hm' : (!b && !List.isEmpty s) = true := hm
      rw [hm', sm_t h1]
      have hn := fl_mo h hm
      generalize e1 : sW (s, b) = x1 at *
      have l1 : x1.1.length ≤ s.length := by rw [← e1]; exact rwS_le s b
      generalize e2 : sW x1 = x2 at *
      have l2 : x2.1.length ≤ x1.1.length := by rw [← e2]; exact rwS_le _ _
      generalize e3 : sW x2 = x3 at *
      have l3 : x3.1.length ≤ x2.1.length := by rw [← e3]; exact rwS_le _ _
      generalize e4 : sW x3 = x4 at *
      have l4 : x4.1.length ≤ x3.1.length := by rw [← e4]; exact rwS_le _ _
      have f4 : Fl f x4 := by rw [← e4]; exact fl_sW (by rw [← e3]; exact fl_sW (by rw [← e2]; exact fl_sW hn))
      have q1 : rwS s b = x1.1 := congrArg Prod.fst e1
      have q1b : pwB s b = x1.2 := congrArg Prod.snd e1
      have q2 : rwS x1.1 x1.2 = x2.1 := congrArg Prod.fst e2
      have q2b : pwB x1.1 x1.2 = x2.2 := congrArg Prod.snd e2
      have q3 : rwS x2.1 x2.2 = x3.1 := congrArg Prod.fst e3
      have q3b : pwB x2.1 x2.2 = x3.2 := congrArg Prod.snd e3
      have q4 : rwS x3.1 x3.2 = x4.1 := congrArg Prod.fst e4
      have q4b : pwB x3.1 x3.2 = x4.2 := congrArg Prod.snd e4
      have rm : roomN (a.length + 1) 56 = true := roomN_t (by omega) (by omega)
      simp only [cond_true, q1, q1b, q2, q2b, q3, q3b, q4, q4b, sm_t (show x1.1.length ≤ 1000000 by omega), sm_t (show x2.1.length ≤ 1000000 by omega), sm_t (show x3.1.length ≤ 1000000 by omega), rm]
      have go : ∀ (w3 : W) (bb : Bool), w3 = rp (vW x2) → bb = (x4.2 || (!(vW (s, b) == wAllow) && !(vW (s, b) == wDeny))) →
          Runs cl (plists_q1 (mk x4.1) bb k a1 a2 a3 a4 a5 a6 a7 a8 a9 h2 h3 (eRs a ++ [[.bool (vW (s, b) == wAllow), .str (mk (vW x1)), .str (mk w3), .str (mk (vW x3))]]) h5) (bxR k a1 a2 a3 a4 a5 a6 a7 a8 a9 (lpR (f + 1) (s, b) a).2 h2 h3 (eRs (lpR (f + 1) (s, b) a).1) h5) := fun w3 bb e5 e6 => by
        have e : lpR (f + 1) (s, b) a = lpR f (x4.1, x4.2 || (!(vW (s, b) == wAllow) && !(vW (s, b) == wDeny))) (a ++ [(vW (s, b) == wAllow, vW x1, rp (vW x2), vW x3)]) := by
          rw [lpR, hm, e1, e2, e3, e4]; rfl
        rw [e, e5, e6]
        have := plists_R h2 h3 h5 f (x4.1, x4.2 || (!(vW (s, b) == wAllow) && !(vW (s, b) == wDeny))) (a ++ [(vW (s, b) == wAllow, vW x1, rp (vW x2), vW x3)]) (f4.elim .inl fun h => .inr (by show (x4.2 || _) = true; rw [h]; rfl)) (by show x4.1.length ≤ _; omega) (by simp; omega)
        conv at this => arg 2; rw [← eRs_snoc]
        exact this
      have fin : ∀ w3, w3 = rp (vW x2) → RunsF cl (fun G => cond x4.2
          (G (plists_q1 (mk x4.1) true k a1 a2 a3 a4 a5 a6 a7 a8 a9 h2 h3 (eRs a ++ [[.bool (vW (s, b) == wAllow), .str (mk (vW x1)), .str (mk w3), .str (mk (vW x3))]]) h5))
          (cond (!vW (s, b) == wAllow)
            (G (plists_q1 (mk x4.1) (!vW (s, b) == wDeny) k a1 a2 a3 a4 a5 a6 a7 a8 a9 h2 h3 (eRs a ++ [[.bool (vW (s, b) == wAllow), .str (mk (vW x1)), .str (mk w3), .str (mk (vW x3))]]) h5))
            (G (plists_q1 (mk x4.1) false k a1 a2 a3 a4 a5 a6 a7 a8 a9 h2 h3 (eRs a ++ [[.bool (vW (s, b) == wAllow), .str (mk (vW x1)), .str (mk w3), .str (mk (vW x3))]]) h5))))
          (bxR k a1 a2 a3 a4 a5 a6 a7 a8 a9 (lpR (f + 1) (s, b) a).2 h2 h3 (eRs (lpR (f + 1) (s, b) a).1) h5) := fun w3 hw =>
        RunsF.cond (fun hx => .go (go _ _ hw (by rw [hx]; rfl))) (fun hx => RunsF.cond (fun hy => .go (go _ _ hw (by rw [hx, hy]; rfl))) (fun hy => .go (go _ _ hw (by rw [hx, hy]; rfl))))
      exact RunsF.cond (fun hx => fin [] (by unfold rp; rw [show (vW x2 == [45]) = true from hx]; rfl)) (fun hx => fin _ (by unfold rp; rw [show (vW x2 == [45]) = false from hx]; rfl))
end
end Go.Ab
namespace Go.Ab
open Go.Proofs

theorem isE0 {α : Type} {l : List α} (h : l.isEmpty = true) : l = [] := by simpa using h
theorem isEb0 {a : ByteArray} (h : (bl a).isEmpty = true) : a = mk [] := by
  obtain ⟨l, rfl⟩ := str_cases a
  rw [bl_mk] at h
  rw [isE0 h]
theorem lists_runs (k : Int) (s : W) (b : Bool) (g : s.length ≤ 1000000) :
    Runs cl (.enter 39 [(.lf (.ptr 0 0)), (.lf (.ptr 1 0))] [.box [.str, .bool] [.str (mk s), .bool b], .box K42 [.int .i64 k, .str (mk []), .str (mk []), .str (mk []), .int .i64 0, .int .i64 0, .int .i64 0, .int .i64 0, .str (mk []), .str (mk []), .row 2, .row 3, .row 4, .row 5], .row 3 [] true, .row 9 [] true, .row 65 [] true, .row 51 [] true])
      (.str (mk (ls k (s, b)).2.1) :: .bool (ls k (s, b)).2.2 :: encE (ls k (s, b)).1) := by
  refine Runs.by (plists_e · _ _ _) ?_
  have l1 := rwS_le s b
  have l2 := rwS_le (rwS s b) (pwB s b)
  have l3 := rwS_le (rwS (rwS s b) (pwB s b)) (pwB (rwS s b) (pwB s b))
  simp only [bm, sm_t g, sm_t (show (rwS s b).length ≤ 1000000 by omega), sm_t (show (rwS (rwS s b) (pwB s b)).length ≤ 1000000 by omega), cond_true]
  have q3 : (sN (sW (sW (s, b)))).1.length ≤ s.length := Nat.le_trans l3 (Nat.le_trans l2 l1)
  have q1 : (sW (s, b)).1.length ≤ s.length := l1
  unfold ls
  refine RunsF.cond (fun h => ?_) (fun h => ?_)
  · rw [h, cond_true]
    have := plists_W k (mk (vW (s, b))) (mk (vW (sW (s, b)))) (mk []) (vN (sW (sW (s, b)))) 0 0 0 (mk []) (mk []) [] [] [] (fu (sN (sW (sW (s, b))))) (sN (sW (sW (s, b)))) [] (.inl (Nat.lt_succ_self _)) (Nat.le_trans q3 g) (by show 0 + ((sN (sW (sW (s, b)))).1.length + 1) ≤ _; omega)
    exact .go this
  · rw [h, cond_false]
    refine RunsF.cond (fun h => ?_) (fun h => ?_)
    · rw [h, cond_true]
      have := plists_G k (mk []) (mk []) (mk []) 0 0 0 0 (mk []) (mk (vW (s, b))) [] [] (fu (sW (s, b))) (sW (s, b)) [] [] (.inl (Nat.lt_succ_self _)) (Nat.le_trans q1 g) (by show 0 + ((sW (s, b)).1.length + 1) ≤ _; omega) (by show 0 + ((sW (s, b)).1.length + 1) ≤ _; omega)
      exact .go this
    · rw [h, cond_false]
      have := plists_R k (mk []) (mk []) (mk []) 0 0 0 0 (mk []) (mk []) [] [] [] (fu (s, b)) (s, b) [] (.inl (Nat.lt_succ_self _)) g (by show 0 + (s.length + 1) ≤ _; omega)
      exact .go this
theorem lists_holds : Holds k_lists := con_run (xs := [c_pw, c_pn, c_pt, k_pmore]) (hold1 c_pw_holds (hold1 c_pn_holds (hold1 c_pt_holds (hold1 pmore_holds hold0)))) fun aa hp r h => by
  split at h
  case h_2 => cases h
  rename_i s b k a1 a2 a3 a4 a5 a6 a7 a8 a9 h2 h3 h4 h5
  obtain ⟨g, rfl⟩ := xo h
  simp only [Bool.and_eq_true, beq_iff_eq] at g
  obtain ⟨g0, ⟨⟨⟨⟨⟨⟨⟨⟨⟨g1, g2⟩, g3⟩, g4⟩, g5⟩, g6⟩, g7⟩, g8⟩, g9⟩, ⟨⟨g10, g11⟩, g12⟩, g13⟩⟩ := g
  obtain rfl := isEb0 g1
  obtain rfl := isEb0 g2
  obtain rfl := isEb0 g3
  subst g4 g5 g6 g7
  obtain rfl := isEb0 g8
  obtain rfl := isEb0 g9
  obtain rfl := isE0 g10
  obtain rfl := isE0 g11
  obtain rfl := isE0 g12
  obtain rfl := isE0 g13
  obtain ⟨s, rfl⟩ := str_cases s
  rw [size_mk] at g0
  exact lists_runs k s b (sm_of g0)

noncomputable abbrev cp : Cfg := cfg [k_commands, k_Cut, c_pw, c_pn, c_pt, k_lists]
theorem has_all : (nmL.all fun w => decide (1 ≤ ct w)) = true := by decide +kernel
theorem has_ct (w : W) (h : mapHas cmdsL (mk w) = true) : 1 ≤ ct w := of_decide_eq_true (List.all_eq_true.1 has_all w (names_in w (mapHas_mem _ _ h)))
theorem fin3_runs' {C : Cfg} (r : Ev × Rs) (F : (Req → R) → R) (h : F = fun _ => cond r.2.2 (some (encE (ev0 0) ++ [.int .i64 3])) (cond (!bl (mk r.2.1) == bl (mk [])) (some (encE (ev0 0) ++ [.int .i64 3])) (some (encE r.1 ++ [.int .i64 0])))) : RunsF C F (encE (fin3 r).1 ++ [.int .i64 (fin3 r).2]) := by
  rw [h]; exact fin3_runs r
set_option maxHeartbeats 4000000 in
theorem pevent_runs (k : Int) (s : W) (g : s.length ≤ 1000000) (h1 : 1 ≤ k) (h2 : k ≤ 22) (r3 r4 r5 r6 r7 r8 r9 r10 : List (List L)) (e7 : r7 = []) (e8 : r8 = []) (e9 : r9 = []) (e10 : r10 = []) :
    Runs cp (pevent_q7 k 0 (mk []) (mk []) (mk []) 0 0 0 0 (mk []) (mk []) (mk s) false k (mk []) (mk []) (mk []) 0 0 0 0 (mk []) (mk []) r3 r4 r5 r6 r7 r8 r9 r10) (encE (fin3 (evG pOps k (s, false))).1 ++ [.int .i64 (fin3 (evG pOps k (s, false))).2]) := by
  subst e7 e8 e9 e10
  have sR : ∀ (t : W) (b : Bool), t.length ≤ 1000000 → (rwS t b).length ≤ 1000000 := fun t b h => Nat.le_trans (rwS_le t b) h
  have sT : ∀ (t : W) (b : Bool), t.length ≤ 1000000 → (ptS t b).length ≤ 1000000 := fun t b h => Nat.le_trans (ptS_le t b) h
  have sm1 : ∀ (t : W) (b : Bool), sm t.length = true → sm (rwS t b).length = true := fun t b h => sm_t (sR t b (sm_of h))
  have sm2 : ∀ (t : W) (b : Bool), sm t.length = true → sm (ptS t b).length = true := fun t b h => sm_t (sT t b (sm_of h))
  have g0 := sm_t g
  refine Runs.by (pevent_p7 · _ _ _ _ _ _ _ _ _ _ _ _ _ _ _ _ _ _ _ _ _ _ _ _ _ _ _ _ _ _ _) ?_
  have gg : (sm (mk s).size && (List.isEmpty (bl (mk [])) && List.isEmpty (bl (mk [])) && List.isEmpty (bl (mk [])) && (0 : Int) == 0 && (0 : Int) == 0 && (0 : Int) == 0 && (0 : Int) == 0 && List.isEmpty (bl (mk [])) && List.isEmpty (bl (mk [])) && (List.isEmpty ([] : List (List L)) && List.isEmpty ([] : List (List L)) && List.isEmpty ([] : List (List L)) && List.isEmpty ([] : List (List L))))) = true := by
    rw [size_mk, g0]; rfl
  rw [gg]
  have hk : k = 1 ∨ k = 2 ∨ k = 3 ∨ k = 4 ∨ k = 5 ∨ k = 6 ∨ k = 7 ∨ k = 8 ∨ k = 9 ∨ k = 10 ∨ k = 11 ∨ k = 12 ∨ k = 13 ∨ k = 14 ∨ k = 15 ∨ k = 16 ∨ k = 17 ∨ k = 18 ∨ k = 19 ∨ k = 20 ∨ k = 21 ∨ k = 22 := by omega
  rcases hk with rfl | rfl | rfl | rfl | rfl | rfl | rfl | rfl | rfl | rfl | rfl | rfl | rfl | rfl | rfl | rfl | rfl | rfl | rfl | rfl | rfl | rfl <;> simp (maxDischargeDepth := 9) only [Int.reduceBEq, cond_true, cond_false, bl_mk, g0, sm1, sm2] <;> exact fin3_runs' _ _ rfl
theorem pevent_holds : Holds k_pevent := con_run (xs := [k_commands, k_Cut, c_pw, c_pn, c_pt, k_lists]) (hold1 commands_holds (hold1 Cut_holds (hold1 c_pw_holds (hold1 c_pn_holds (hold1 c_pt_holds (hold1 lists_holds hold0)))))) fun aa hp r h => by
  unfold conEv at h
  split at h
  case h_2 => cases h
  rename_i s
  obtain ⟨g, rfl⟩ := xo h
  obtain ⟨s, rfl⟩ := str_cases s
  have g' := sm_of g
  rw [size_mk] at g'
  refine Runs.by (pevent_e · _) ?_
  have hu := upB_le s
  have e2 : (mk s).extract (upB s).length s.length = mk (s.drop (upB s).length) := ext_all s _
  simp (disch := omega) only [size_mk, bl_mk, Nat.ble_eq_true_of_le g', Bool.and_self, cond_true, ev_le_t, Int.toNat_natCast, e2]
  unfold evL
  cases hm : mapHas cmdsL (mk (upB s))
  · have e : ct (upB s) = 0 := by unfold ct; rw [hm]; rfl
    rw [e]
    exact .ret
  · have e : ct (upB s) = mapGet cmdsL (mk (upB s)) := by unfold ct; rw [hm]; rfl
    rw [← e]
    have hne : ct (upB s) ≠ 0 := fun h0 => by
      have := has_ct _ hm
      omega
    obtain ⟨r1, r2⟩ := ct_range _ hne
    have hb : (ct (upB s) == 0) = false := by simpa using hne
    rw [hb]
    exact .go (pevent_runs _ _ (by rw [List.length_drop]; omega) r1 r2 _ _ _ _ _ _ _ _ rfl rfl rfl rfl)
end Go.Ab
namespace Go.Ab
open Go.Proofs

noncomputable abbrev cln : Cfg := cfg [k_commands, k_add, k_num, k_listed, k_pquote, k_Join, k_pevent, k_Cont, k_psame]
/-- The names of a kind. -/
def fN (k : Int) (l : List (ByteArray × Int)) : List W := (l.filter fun p => p.2 == k).map fun p => bl p.1
def lnw (e : Ev) : List W := fN e.kind cmdsL ++ tlw e
def ln (e : Ev) : W := jn (lnw e)
def lnR (e : Ev) : W × Int := if (evL pOps (ln e)).2 ≠ 0 ∨ (ln e).contains 10 = true ∨ (evL pOps (ln e)).1 ≠ e ∨ 8000 < (ln e).length then ([], 1) else (ln e, 0)
def gLn (e : Ev) : Bool := okI e && (Nat.ble (ln e).length 900000 && smE e)
noncomputable def k_pline : Nat × Con := (n_script_Line, conE gLn fun e => [.str (mk (lnR e).1), .int .i64 (lnR e).2])

section
variable (k : Int) (a1 a2 a3 : ByteArray) (a4 a5 a6 a7 : Int) (a8 a9 : ByteArray) (us gs rs ws : List (List L))
theorem p3_c (G : Req → R) (c c' : Option (ByteArray × Int)) (ls : List (List L)) :
    runB cln G (pline_q3 k a1 a2 a3 a4 a5 a6 a7 a8 a9 us gs rs ws cmdsL [] c ls) = runB cln G (pline_q3 k a1 a2 a3 a4 a5 a6 a7 a8 a9 us gs rs ws cmdsL [] c' ls) := by
  rw [pline_p3, pline_p3]
theorem fN_erase {k : Int} : ∀ (l : List (ByteArray × Int)) (i : Nat), i < l.length → (l.getD i default).2 ≠ k → fN k (l.eraseIdx i) = fN k l
  | [], i, h, _ => absurd h (Nat.not_lt_zero _)
  | p :: l, 0, h, hn => by
    have hn : p.2 ≠ k := hn
    have : (p.2 == k) = false := by simpa using hn
    unfold fN
    rw [List.eraseIdx_cons_zero, List.filter_cons, this]
    rfl
  | p :: l, i + 1, h, hn => by
    have ih := fN_erase l i (Nat.lt_of_succ_lt_succ h) hn
    unfold fN at ih ⊢
    rw [List.eraseIdx_cons_succ, List.filter_cons, List.filter_cons]
    split
    · rw [List.map_cons, List.map_cons, ih]
    · exact ih
theorem fN_hit {k : Int} : ∀ (l : List (ByteArray × Int)) (i : Nat), i < l.length → (l.getD i default).2 = k → (fN k l).length ≤ 1 → fN k l = [bl (l.getD i default).1] ∧ fN k (l.eraseIdx i) = []
  | [], i, h, _, _ => absurd h (Nat.not_lt_zero _)
  | p :: l, 0, h, hn, h1 => by
    have hn : p.2 = k := hn
    have hb : (p.2 == k) = true := by simpa using hn
    have e : fN k (p :: l) = bl p.1 :: fN k l := by
      unfold fN
      rw [List.filter_cons, hb]; rfl
    rw [e, List.length_cons] at h1
    have e0 : fN k l = [] := List.eq_nil_of_length_eq_zero (by omega)
    rw [e, e0]
    exact ⟨rfl, e0⟩
  | p :: l, i + 1, h, hn, h1 => by
    have hi : i < l.length := Nat.lt_of_succ_lt_succ h
    have e : fN k (p :: l) = (if p.2 == k then [bl p.1] else []) ++ fN k l := by
      unfold fN
      rw [List.filter_cons]
      split <;> rfl
    rw [e, List.length_append] at h1
    obtain ⟨q1, q2⟩ := fN_hit l i hi hn (by omega)
    have hp : (p.2 == k) = false := by
      cases hb : p.2 == k
      · rfl
      · rw [hb, q1] at h1; simp at h1
    rw [e, hp]
    have e2 : fN k ((p :: l).eraseIdx (i + 1)) = fN k (l.eraseIdx i) := by
      unfold fN
      rw [List.eraseIdx_cons_succ, List.filter_cons, hp]; rfl
    exact ⟨q1, e2.trans q2⟩
theorem pline_iter (r : List L) (K : Nat) (fin : List W) (hK : ∀ c, run cln (K + 1) (pline_q3 k a1 a2 a3 a4 a5 a6 a7 a8 a9 us gs rs ws cmdsL [] c (eSs fin)) = some r) :
    ∀ (n : Nat) (l : List (ByteArray × Int)) (c : Option (ByteArray × Int)) (acc : List W), l.length = n → acc ++ fN k l = fin → (fN k l).length ≤ 1 → acc.length + (fN k l).length ≤ 100 →
      run cln (K + 1 + n) (pline_q3 k a1 a2 a3 a4 a5 a6 a7 a8 a9 us gs rs ws cmdsL l c (eSs acc)) = some r
  | 0, l, c, acc, hn, hf, _, _ => by
    have : l = [] := List.eq_nil_of_length_eq_zero hn
    subst this
    have : acc = fin := by rw [← hf]; simp [fN]
    rw [this]
    exact hK c
  | n + 1, l, c, acc, hn, hf, h1, ha => by
    have ih := pline_iter r K fin hK n
    show runB cln (run cln (K + 1 + n)) _ = some r
    rw [pline_p3]
    have hb : Nat.beq l.length 0 = false := by rw [hn]; rfl
    rw [hb, cond_false]
    refine anyOf_eq (by omega) fun i hi => ?_
    have hl : (l.eraseIdx i).length = n := by rw [List.length_eraseIdx_of_lt hi]; omega
    have rm : roomN ((eSs acc).length + 1) 16 = true := by rw [eSs_len]; exact roomN_t (by omega) (by omega)
    by_cases hk : (l.getD i default).2 = k
    · obtain ⟨q1, q2⟩ := fN_hit l i hi hk h1
      have hkb : (Prod.snd (l.getD i default) == k) = true := by simpa using hk
      rw [hkb, rm]
      have := ih (l.eraseIdx i) (some (l.getD i default)) (acc ++ [bl (l.getD i default).1]) hl (by rw [q2, List.append_nil, ← hf, q1]) (by rw [q2]; simp) (by
        rw [q2, List.length_append]
        rw [q1] at ha
        simpa using ha)
      rw [show eSs (acc ++ [bl (l.getD i default).1]) = eSs acc ++ [[L.str (l.getD i default).1]] from by simp [eSs, eS1]] at this
      exact this
    · have hkb : (Prod.snd (l.getD i default) == k) = false := by simpa using hk
      rw [hkb]
      have q := fN_erase l i hi hk
      exact ih (l.eraseIdx i) (some (l.getD i default)) acc hl (by rw [q]; exact hf) (by rw [q]; exact h1) (by rw [q]; exact ha)
end

theorem fN_all : ((List.range 23).all fun k => decide ((fN (k : Nat) cmdsL).length ≤ 1)) = true := by decide +kernel
theorem fN_le (k : Int) : (fN k cmdsL).length ≤ 1 := by
  by_cases h : 0 ≤ k ∧ k < 23
  · obtain ⟨i, rfl⟩ := Int.eq_ofNat_of_zero_le h.1
    exact of_decide_eq_true (List.all_eq_true.1 fN_all i (List.mem_range.2 (by omega)))
  · have hall : (cmdsL.all fun p => decide (0 ≤ p.2 ∧ p.2 < 23)) = true := by decide +kernel
    have : fN k cmdsL = [] := by
      unfold fN
      rw [List.map_eq_nil_iff, List.filter_eq_nil_iff]
      intro p hp hk
      have := of_decide_eq_true (List.all_eq_true.1 hall p hp)
      have hk : p.2 = k := by simpa using hk
      omega
    rw [this]
    exact Nat.zero_le _
theorem ln_wl (e : Ev) : wl (lnw e) ≤ (ln e).length + 1 := wl_jn _
theorem eSs_snoc' (l : List W) (w : W) : eSs l ++ [[L.str (mk w)]] = eSs (l ++ [w]) := by simp [eSs, eS1]
theorem eSs_3 (l : List W) (a b c : W) : eSs l ++ [[L.str (mk a)], [L.str (mk b)], [L.str (mk c)]] = eSs (l ++ [a, b, c]) := by simp [eSs, eS1]
theorem eSs_2 (l : List W) (a b : W) : eSs l ++ [[L.str (mk a)], [L.str (mk b)]] = eSs (l ++ [a, b]) := by simp [eSs, eS1]
theorem eSs_4 (l : List W) (a b c d : W) : eSs l ++ [[L.str (mk a)], [L.str (mk b)], [L.str (mk c)], [L.str (mk d)]] = eSs (l ++ [a, b, c, d]) := by simp [eSs, eS1]
theorem eqk {k n : Int} (h : (k == n) = true) : k = n := by simpa using h
/-- Behind the switch. -/
theorem pline_end (e : Ev) (g : gLn e = true) : Runs cln (pline_q48 e.kind (mk e.repo) (mk e.name) (mk e.other) e.who e.n e.m e.k (mk e.text) (mk e.gname) (eIs e.users) (eSs e.groups) (eRs e.rules) (eWs e.writes) (eSs (lnw e))) [.str (mk (lnR e).1), .int .i64 (lnR e).2] := by
  unfold gLn at g
  simp only [Bool.and_eq_true] at g
  obtain ⟨g1, g2, g3⟩ := g
  have g2 := Nat.le_of_ble_eq_true g2
  have hw := ln_wl e
  have hl := len_wl (lnw e)
  refine Runs.by (pline_p48 · _ _ _ _ _ _ _ _ _ _ _ _ _ _ _) ?_
  have ej : jn (dSs (eSs (lnw e))) = ln e := by rw [dSs_e]; rfl
  have e1 : (⟨e.kind, bl (mk e.repo), bl (mk e.name), bl (mk e.other), e.who, e.n, e.m, e.k, bl (mk e.text), bl (mk e.gname), dIs (eIs e.users), dSs (eSs e.groups), dRs (eRs e.rules), dWs (eWs e.writes)⟩ : Ev) = e := by
    rw [dIs_e, dSs_e, dRs_e, dWs_e]
  have e2 : ∀ x : Ev, (⟨x.kind, bl (mk x.repo), bl (mk x.name), bl (mk x.other), x.who, x.n, x.m, x.k, bl (mk x.text), bl (mk x.gname), dIs (eIs x.users), dSs (eSs x.groups), dRs (eRs x.rules), dWs (eWs x.writes)⟩ : Ev) = x := fun x => by
    rw [dIs_e, dSs_e, dRs_e, dWs_e]
  rw [ej]
  simp only [e1, e2, eSs_len, size_mk, bl_mk, nb (show (lnw e).length ≤ 1000000 by omega), nb (show (ln e).length ≤ 100000000 by omega), nb (show (ln e).length ≤ 1000000000 by omega), sm_t (show (ln e).length ≤ 1000000 by omega), isLs_e, g3, Bool.and_self, cond_true]
  unfold lnR
  by_cases h1 : (evL pOps (ln e)).2 = 0
  · rw [show ((evL pOps (ln e)).2 != 0) = false from ev_ne_f h1]
    simp only [cond_false]
    cases h2 : (ln e).contains 10
    · simp only [cond_false]
      by_cases h3 : (evL pOps (ln e)).1 = e
      · rw [decide_eq_true h3]
        simp only [Bool.not_true, cond_false]
        by_cases h4 : 8000 < (ln e).length
        · rw [if_pos (.inr (.inr (.inr h4))), ev_lt_t (by omega)]
          exact .ret
        · rw [if_neg (by simp only [h1, h3, ne_eq, not_true_eq_false, h4, or_self, Bool.false_eq_true, not_false_eq_true]), ev_lt_f (by omega)]
          exact .ret
      · rw [if_pos (.inr (.inr (.inl h3))), decide_eq_false h3]
        exact .ret
    · rw [if_pos (.inr (.inl rfl))]
      exact .ret
  · rw [if_pos (.inl h1), show ((evL pOps (ln e)).2 != 0) = true from ev_ne_t h1]
    exact .ret
set_option maxHeartbeats 4000000 in
theorem pline_sw (e : Ev) (g : gLn e = true) : Runs cln (pline_q3 e.kind (mk e.repo) (mk e.name) (mk e.other) e.who e.n e.m e.k (mk e.text) (mk e.gname) (eIs e.users) (eSs e.groups) (eRs e.rules) (eWs e.writes) cmdsL [] none (eSs (fN e.kind cmdsL))) [.str (mk (lnR e).1), .int .i64 (lnR e).2] := by
  have hend := pline_end e g
  have hf := fN_le e.kind
  have hw := ln_wl e
  have g' := g
  unfold gLn at g'
  simp only [Bool.and_eq_true] at g'
  obtain ⟨g1, g2, g3⟩ := g'
  have g2 := Nat.le_of_ble_eq_true g2
  have gI := g1
  unfold okI at gI
  simp only [Bool.and_eq_true] at gI
  obtain ⟨⟨i4, i5, i6, i7⟩, iu⟩ := gI
  have e1 : (⟨e.kind, bl (mk e.repo), bl (mk e.name), bl (mk e.other), e.who, e.n, e.m, e.k, bl (mk e.text), bl (mk e.gname), dIs (eIs e.users), dSs (eSs e.groups), dRs (eRs e.rules), dWs (eWs e.writes)⟩ : Ev) = e := by
    rw [dIs_e, dSs_e, dRs_e, dWs_e]
  have ow : wl (lnw e) = wl (fN e.kind cmdsL) + wl (tlw e) := wl_app _ _
  have o1 : (okI e && (sm (jn (lsw e)).length && sm (eSs (fN e.kind cmdsL)).length)) = true ∨ True := .inr trivial
  have n0 : ∀ b : Nat, b ≤ 100 → Nat.ble ((eSs (fN e.kind cmdsL)).length + b) 10000000 = true := fun b hb => nb (by rw [eSs_len]; omega)
  have n1 : Nat.ble (eSs (fN e.kind cmdsL)).length 10000000 = true := n0 0 (by decide)
  have n2 : Nat.ble (eSs (fN e.kind cmdsL)).length 100000000 = true := nb (by rw [eSs_len]; omega)
  have n3 : Nat.ble (fN e.kind cmdsL).length 10000000 = true := nb (by omega)
  have n4 : Nat.ble (fN e.kind cmdsL).length 100000000 = true := nb (by omega)
  have s1 : sm 1 = true := rfl
  have s2 : sm 2 = true := rfl
  have s3 : sm 3 = true := rfl
  have s4 : sm 4 = true := rfl
  -- the ways that call the writer of lists
  have hls : ∀ t : List W, tlw e = lsw e → (isLs (eIs e.users) (eSs e.groups) (eRs e.rules) (eWs e.writes) && (okI e && (sm (jn (lsw e)).length && sm (eSs (fN e.kind cmdsL)).length))) = true := fun _ ht => by
    rw [isLs_e, g1]
    have h1 := jn_wl (lsw e)
    rw [ht] at ow
    rw [sm_t (show (jn (lsw e)).length ≤ 1000000 by omega), sm_t (by rw [eSs_len]; omega)]
    rfl
  refine Runs.by (pline_p3 · _ _ _ _ _ _ _ _ _ _ _ _ _ _ _ _ _ _) ?_
  rw [show Nat.beq ([] : List (ByteArray × Int)).length 0 = true from rfl]
  simp only [cond_true, e1]
  refine RunsF.cond (fun hk => ?_) (fun hk0 => ?_)
  · have hk := eqk hk
    have ht : tlw e = lsw e := by unfold tlw; rw [hk]; rfl
    have hl : lnw e = fN e.kind cmdsL ++ tlw e := rfl
    rw [hls [] ht]
    rw [hl, ht, ← eSs_app] at hend
    exact .go hend
  refine RunsF.cond (fun hk => ?_) (fun hk1 => ?_)
  · have hk := eqk hk
    have ht : tlw e = lsw e := by unfold tlw; rw [hk]; rfl
    have hl : lnw e = fN e.kind cmdsL ++ tlw e := rfl
    rw [hls [] ht]
    rw [hl, ht, ← eSs_app] at hend
    exact .go hend
  refine RunsF.cond (fun hk => ?_) (fun hk2 => ?_)
  · have hk := eqk hk
    have ht : tlw e = lsw e := by unfold tlw; rw [hk]; rfl
    have hl : lnw e = fN e.kind cmdsL ++ tlw e := rfl
    rw [hls [] ht]
    rw [hl, ht, ← eSs_app] at hend
    exact .go hend
  refine RunsF.cond (fun hk => ?_) (fun hk3 => ?_)
  · have hk := eqk hk
    have ht : tlw e = [it e.who, qt e.text, it e.n, it e.m, it e.k] := by unfold tlw; rw [hk]; rfl
    have hl : lnw e = fN e.kind cmdsL ++ tlw e := rfl
    have hq := qt_len e.text
    rw [ht] at ow
    simp only [wl_cons, wl_nil] at ow
    have q1 := sm_t (show e.text.length ≤ 1000000 by omega)
    rw [hl, ht] at hend
    simp only [i4, i5, i6, i7, n3, s1, bl_mk, Bool.and_self, cond_true, dupN_eq, List.length_append, eSs_len, List.length_cons, List.length_nil, List.map_cons, List.map_nil, q1]
    have m0 : ∀ b : Nat, b ≤ 100 → Nat.ble ((fN e.kind cmdsL).length + b) 10000000 = true ∧ Nat.ble ((fN e.kind cmdsL).length + b) 100000000 = true := fun b hb => ⟨nb (by omega), nb (by omega)⟩
    try simp only [eSs_snoc', eSs_app, List.append_assoc, List.cons_append, List.nil_append, (m0 (0 + 1) (by decide)).2, (m0 (0 + 1 + 1) (by decide)).1, Nat.add_assoc, Bool.and_self, cond_true]
    exact .go hend
  refine RunsF.cond (fun hk => ?_) (fun hk4 => ?_)
  · have hk := eqk hk
    have ht : tlw e = [it e.who, qt e.text] := by unfold tlw; rw [hk]; rfl
    have hl : lnw e = fN e.kind cmdsL ++ tlw e := rfl
    have hq := qt_len e.text
    rw [ht] at ow
    simp only [wl_cons, wl_nil] at ow
    have q1 := sm_t (show e.text.length ≤ 1000000 by omega)
    rw [hl, ht] at hend
    simp only [i4, n3, s1, bl_mk, Bool.and_self, cond_true, dupN_eq, List.length_append, eSs_len, List.length_cons, List.length_nil, List.map_cons, List.map_nil, q1]
    have m0 : ∀ b : Nat, b ≤ 100 → Nat.ble ((fN e.kind cmdsL).length + b) 10000000 = true ∧ Nat.ble ((fN e.kind cmdsL).length + b) 100000000 = true := fun b hb => ⟨nb (by omega), nb (by omega)⟩
    try simp only [eSs_snoc', eSs_app, List.append_assoc, List.cons_append, List.nil_append, (m0 (0 + 1) (by decide)).2, Bool.and_self, cond_true]
    exact .go hend
  refine RunsF.cond (fun hk => ?_) (fun hk5 => ?_)
  · have hk := eqk hk
    have ht : tlw e = [it e.who, it e.n, it e.k] := by unfold tlw; rw [hk]; rfl
    have hl : lnw e = fN e.kind cmdsL ++ tlw e := rfl
    rw [hl, ht] at hend
    simp only [i4, i5, i7, n3, Bool.and_self, cond_true, eSs_len, List.map_cons, List.map_nil]
    have m0 : ∀ b : Nat, b ≤ 100 → Nat.ble ((fN e.kind cmdsL).length + b) 10000000 = true ∧ Nat.ble ((fN e.kind cmdsL).length + b) 100000000 = true := fun b hb => ⟨nb (by omega), nb (by omega)⟩
    try simp only [eSs_app]
    exact .go hend
  refine RunsF.cond (fun hk => ?_) (fun hk6 => ?_)
  · have hk := eqk hk
    have ht : tlw e = [it e.who, e.repo, e.name, qt e.text, qt e.other] := by unfold tlw; rw [hk]; rfl
    have hl : lnw e = fN e.kind cmdsL ++ tlw e := rfl
    have hq := qt_len e.text
    have hq2 := qt_len e.other
    rw [ht] at ow
    simp only [wl_cons, wl_nil] at ow
    have q1 := sm_t (show e.text.length ≤ 1000000 by omega)
    have q2 := sm_t (show e.other.length ≤ 1000000 by omega)
    rw [hl, ht] at hend
    simp only [i4, n3, s4, bl_mk, Bool.and_self, cond_true, dupN_eq, both_self, List.length_append, eSs_len, List.length_cons, List.length_nil, List.map_cons, List.map_nil, q1, q2]
    have m0 : ∀ b : Nat, b ≤ 100 → Nat.ble ((fN e.kind cmdsL).length + b) 10000000 = true ∧ Nat.ble ((fN e.kind cmdsL).length + b) 100000000 = true := fun b hb => ⟨nb (by omega), nb (by omega)⟩
    try simp only [eSs_app, eSs_4, List.append_assoc, List.cons_append, List.nil_append, (m0 (0 + 1) (by decide)).2, Bool.and_self, cond_true]
    exact .go hend
  refine RunsF.cond (fun hk => ?_) (fun hk7 => ?_)
  · have hk := eqk hk
    have ht : tlw e = [e.repo] := by unfold tlw; rw [hk]; rfl
    have hl : lnw e = fN e.kind cmdsL ++ tlw e := rfl
    rw [hl, ht] at hend
    simp only [n4, s1, Bool.and_self, cond_true, eSs_len]
    have m0 : ∀ b : Nat, b ≤ 100 → Nat.ble ((fN e.kind cmdsL).length + b) 10000000 = true ∧ Nat.ble ((fN e.kind cmdsL).length + b) 100000000 = true := fun b hb => ⟨nb (by omega), nb (by omega)⟩
    try simp only [eSs_snoc']
    exact .go hend
  refine RunsF.cond (fun hk => ?_) (fun hk8 => ?_)
  · have hk := eqk hk
    have ht : tlw e = [e.repo] := by unfold tlw; rw [hk]; rfl
    have hl : lnw e = fN e.kind cmdsL ++ tlw e := rfl
    rw [hl, ht] at hend
    simp only [n4, s1, Bool.and_self, cond_true, eSs_len]
    have m0 : ∀ b : Nat, b ≤ 100 → Nat.ble ((fN e.kind cmdsL).length + b) 10000000 = true ∧ Nat.ble ((fN e.kind cmdsL).length + b) 100000000 = true := fun b hb => ⟨nb (by omega), nb (by omega)⟩
    try simp only [eSs_snoc']
    exact .go hend
  refine RunsF.cond (fun hk => ?_) (fun hk9 => ?_)
  · have hk := eqk hk
    have ht : tlw e = [e.repo] := by unfold tlw; rw [hk]; rfl
    have hl : lnw e = fN e.kind cmdsL ++ tlw e := rfl
    rw [hl, ht] at hend
    simp only [n4, s1, Bool.and_self, cond_true, eSs_len]
    have m0 : ∀ b : Nat, b ≤ 100 → Nat.ble ((fN e.kind cmdsL).length + b) 10000000 = true ∧ Nat.ble ((fN e.kind cmdsL).length + b) 100000000 = true := fun b hb => ⟨nb (by omega), nb (by omega)⟩
    try simp only [eSs_snoc']
    exact .go hend
  refine RunsF.cond (fun hk => ?_) (fun hk10 => ?_)
  · have hk := eqk hk
    have ht : tlw e = [e.repo, e.name, e.other] := by unfold tlw; rw [hk]; rfl
    have hl : lnw e = fN e.kind cmdsL ++ tlw e := rfl
    rw [hl, ht] at hend
    simp only [n4, s3, Bool.and_self, cond_true, eSs_len]
    have m0 : ∀ b : Nat, b ≤ 100 → Nat.ble ((fN e.kind cmdsL).length + b) 10000000 = true ∧ Nat.ble ((fN e.kind cmdsL).length + b) 100000000 = true := fun b hb => ⟨nb (by omega), nb (by omega)⟩
    try simp only [eSs_3]
    exact .go hend
  refine RunsF.cond (fun hk => ?_) (fun hk11 => ?_)
  · have hk := eqk hk
    have ht : tlw e = [e.repo, e.name, e.other, it e.who] := by unfold tlw; rw [hk]; rfl
    have hl : lnw e = fN e.kind cmdsL ++ tlw e := rfl
    rw [hl, ht] at hend
    simp only [i4, n4, s3, Bool.and_self, cond_true, List.length_append, eSs_len, List.length_cons, List.length_nil, List.map_cons, List.map_nil]
    have m0 : ∀ b : Nat, b ≤ 100 → Nat.ble ((fN e.kind cmdsL).length + b) 10000000 = true ∧ Nat.ble ((fN e.kind cmdsL).length + b) 100000000 = true := fun b hb => ⟨nb (by omega), nb (by omega)⟩
    try simp only [eSs_app, eSs_3, List.append_assoc, List.cons_append, List.nil_append, (m0 (0 + (1 + (1 + 1))) (by decide)).1, Nat.add_assoc, Bool.and_self, cond_true]
    exact .go hend
  refine RunsF.cond (fun hk => ?_) (fun hk12 => ?_)
  · have hk := eqk hk
    have ht : tlw e = [e.repo, e.name] := by unfold tlw; rw [hk]; rfl
    have hl : lnw e = fN e.kind cmdsL ++ tlw e := rfl
    rw [hl, ht] at hend
    simp only [n4, s2, Bool.and_self, cond_true, eSs_len]
    have m0 : ∀ b : Nat, b ≤ 100 → Nat.ble ((fN e.kind cmdsL).length + b) 10000000 = true ∧ Nat.ble ((fN e.kind cmdsL).length + b) 100000000 = true := fun b hb => ⟨nb (by omega), nb (by omega)⟩
    try simp only [eSs_2]
    exact .go hend
  refine RunsF.cond (fun hk => ?_) (fun hk13 => ?_)
  · have hk := eqk hk
    have ht : tlw e = [it e.n] := by unfold tlw; rw [hk]; rfl
    have hl : lnw e = fN e.kind cmdsL ++ tlw e := rfl
    rw [hl, ht] at hend
    simp only [i5, n3, Bool.and_self, cond_true, eSs_len, List.map_cons, List.map_nil]
    have m0 : ∀ b : Nat, b ≤ 100 → Nat.ble ((fN e.kind cmdsL).length + b) 10000000 = true ∧ Nat.ble ((fN e.kind cmdsL).length + b) 100000000 = true := fun b hb => ⟨nb (by omega), nb (by omega)⟩
    try simp only [eSs_app]
    exact .go hend
  refine RunsF.cond (fun hk => ?_) (fun hk14 => ?_)
  · have hk := eqk hk
    have ht : tlw e = [it e.n] := by unfold tlw; rw [hk]; rfl
    have hl : lnw e = fN e.kind cmdsL ++ tlw e := rfl
    rw [hl, ht] at hend
    simp only [i5, n3, Bool.and_self, cond_true, eSs_len, List.map_cons, List.map_nil]
    have m0 : ∀ b : Nat, b ≤ 100 → Nat.ble ((fN e.kind cmdsL).length + b) 10000000 = true ∧ Nat.ble ((fN e.kind cmdsL).length + b) 100000000 = true := fun b hb => ⟨nb (by omega), nb (by omega)⟩
    try simp only [eSs_app]
    exact .go hend
  refine RunsF.cond (fun hk => ?_) (fun hk15 => ?_)
  · have hk := eqk hk
    have ht : tlw e = [it e.n] := by unfold tlw; rw [hk]; rfl
    have hl : lnw e = fN e.kind cmdsL ++ tlw e := rfl
    rw [hl, ht] at hend
    simp only [i5, n3, Bool.and_self, cond_true, eSs_len, List.map_cons, List.map_nil]
    have m0 : ∀ b : Nat, b ≤ 100 → Nat.ble ((fN e.kind cmdsL).length + b) 10000000 = true ∧ Nat.ble ((fN e.kind cmdsL).length + b) 100000000 = true := fun b hb => ⟨nb (by omega), nb (by omega)⟩
    try simp only [eSs_app]
    exact .go hend
  refine RunsF.cond (fun hk => ?_) (fun hk16 => ?_)
  · have hk := eqk hk
    have ht : tlw e = [it e.n, it e.m] := by unfold tlw; rw [hk]; rfl
    have hl : lnw e = fN e.kind cmdsL ++ tlw e := rfl
    rw [hl, ht] at hend
    simp only [i5, i6, n3, Bool.and_self, cond_true, eSs_len, List.map_cons, List.map_nil]
    have m0 : ∀ b : Nat, b ≤ 100 → Nat.ble ((fN e.kind cmdsL).length + b) 10000000 = true ∧ Nat.ble ((fN e.kind cmdsL).length + b) 100000000 = true := fun b hb => ⟨nb (by omega), nb (by omega)⟩
    try simp only [eSs_app]
    exact .go hend
  refine RunsF.cond (fun hk => ?_) (fun hk17 => ?_)
  · have hk := eqk hk
    have ht : tlw e = [it e.n, it e.m] := by unfold tlw; rw [hk]; rfl
    have hl : lnw e = fN e.kind cmdsL ++ tlw e := rfl
    rw [hl, ht] at hend
    simp only [i5, i6, n3, Bool.and_self, cond_true, eSs_len, List.map_cons, List.map_nil]
    have m0 : ∀ b : Nat, b ≤ 100 → Nat.ble ((fN e.kind cmdsL).length + b) 10000000 = true ∧ Nat.ble ((fN e.kind cmdsL).length + b) 100000000 = true := fun b hb => ⟨nb (by omega), nb (by omega)⟩
    try simp only [eSs_app]
    exact .go hend
  refine RunsF.cond (fun hk => ?_) (fun hk18 => ?_)
  · have hk := eqk hk
    have ht : tlw e = [it e.n, it e.m] := by unfold tlw; rw [hk]; rfl
    have hl : lnw e = fN e.kind cmdsL ++ tlw e := rfl
    rw [hl, ht] at hend
    simp only [i5, i6, n3, Bool.and_self, cond_true, eSs_len, List.map_cons, List.map_nil]
    have m0 : ∀ b : Nat, b ≤ 100 → Nat.ble ((fN e.kind cmdsL).length + b) 10000000 = true ∧ Nat.ble ((fN e.kind cmdsL).length + b) 100000000 = true := fun b hb => ⟨nb (by omega), nb (by omega)⟩
    try simp only [eSs_app]
    exact .go hend
  refine RunsF.cond (fun hk => ?_) (fun hk19 => ?_)
  · have hk := eqk hk
    have ht : tlw e = [it e.n, it e.m, it e.k] := by unfold tlw; rw [hk]; rfl
    have hl : lnw e = fN e.kind cmdsL ++ tlw e := rfl
    rw [hl, ht] at hend
    simp only [i5, i6, i7, n3, Bool.and_self, cond_true, eSs_len, List.map_cons, List.map_nil]
    have m0 : ∀ b : Nat, b ≤ 100 → Nat.ble ((fN e.kind cmdsL).length + b) 10000000 = true ∧ Nat.ble ((fN e.kind cmdsL).length + b) 100000000 = true := fun b hb => ⟨nb (by omega), nb (by omega)⟩
    try simp only [eSs_app]
    exact .go hend
  refine RunsF.cond (fun hk => ?_) (fun hk20 => ?_)
  · have hk := eqk hk
    have ht : tlw e = [it e.n, it e.m, it e.k] := by unfold tlw; rw [hk]; rfl
    have hl : lnw e = fN e.kind cmdsL ++ tlw e := rfl
    rw [hl, ht] at hend
    simp only [i5, i6, i7, n3, Bool.and_self, cond_true, eSs_len, List.map_cons, List.map_nil]
    have m0 : ∀ b : Nat, b ≤ 100 → Nat.ble ((fN e.kind cmdsL).length + b) 10000000 = true ∧ Nat.ble ((fN e.kind cmdsL).length + b) 100000000 = true := fun b hb => ⟨nb (by omega), nb (by omega)⟩
    try simp only [eSs_app]
    exact .go hend
  have ht : tlw e = [] := by
    unfold tlw
    simp only [hk0, hk1, hk2, hk3, hk4, hk5, hk6, hk7, hk8, hk9, hk10, hk11, hk12, hk13, hk14, hk15, hk16, hk17, hk18, hk19, hk20, cond_false]
  have hl : lnw e = fN e.kind cmdsL ++ tlw e := rfl
  rw [hl, ht, List.append_nil] at hend
  exact .go hend
theorem pline_runs (e : Ev) (g : gLn e = true) : Runs cln (.enter 16 [.agg (encE e)] []) [.str (mk (lnR e).1), .int .i64 (lnR e).2] := by
  obtain ⟨K, hK⟩ := pline_sw e g
  have hf := fN_le e.kind
  cases K with
  | zero => cases hK
  | succ K =>
    refine Runs.by (pline_e · _ _ _ _ _ _ _ _ _ _ _ _ _ _) ?_
    exact ⟨_, pline_iter e.kind (mk e.repo) (mk e.name) (mk e.other) e.who e.n e.m e.k (mk e.text) (mk e.gname) (eIs e.users) (eSs e.groups) (eRs e.rules) (eWs e.writes) _ K (fN e.kind cmdsL) (fun c => (p3_c _ _ _ _ _ _ _ _ _ _ _ _ _ _ (run cln K) c none _).trans hK) cmdsL.length cmdsL none [] rfl (List.nil_append _) hf (by simpa using Nat.le_trans hf (by decide))⟩
theorem pline_holds : Holds k_pline := conE_of (ks := [k_commands, k_add, k_num, k_listed, k_pquote, k_Join, k_pevent, k_Cont, k_psame]) (hold1 commands_holds (hold1 add_holds (hold1 num_holds (hold1 listed_holds (hold1 pquote_holds (hold1 Join_holds (hold1 pevent_holds (hold1 Cont_holds (hold1 psame_holds hold0))))))))) fun e g => pline_runs e g
end Go.Ab
namespace Go.Ab
open Go.Proofs
/-- The reference's line. -/
def rln (e : Ev) : W := nmOf e.kind ++ tw (tlw e)
def rlnR (e : Ev) : W × Int := if nmOf e.kind = [] then ([], 1) else if (evL aOps (rln e)).2 ≠ 0 ∨ e ≠ (evL aOps (rln e)).1 ∨ 8000 < (rln e).length then ([], 1) else (rln e, 0)
def gRl (e : Ev) : Bool := i64B e.kind && (okI e && Nat.ble (rln e).length 900000)
noncomputable def k_rline : Nat × Con := (n_codesearchref54_Line, conE gRl fun e => [.str (mk (rlnR e).1), .int .i64 (rlnR e).2])
/-- Lines of many events. -/
def prR (f : Ev → W × Int) : List Ev → W → W × Int
  | [], acc => (acc, 0)
  | e :: l, acc => if (f e).2 ≠ 0 then ([], (f e).2) else prR f l (acc ++ ((f e).1 ++ [10]))
noncomputable def k_pprint : Nat × Con := (n_script_Print, fun
  | [.lf (.lst 42 xs)], [] => some (isEs xs && (Nat.ble xs.length 10000 && (dEs xs).all gLn), [.str (mk (prR lnR (dEs xs) []).1), .int .i64 (prR lnR (dEs xs) []).2])
  | _, _ => none)
noncomputable def k_rprint : Nat × Con := (n_codesearchref54_Print, fun
  | [.lf (.lst 42 xs)], [] => some (isEs xs && (Nat.ble xs.length 10000 && (dEs xs).all gRl), [.str (mk (prR rlnR (dEs xs) []).1), .int .i64 (prR rlnR (dEs xs) []).2])
  | _, _ => none)
/-! ### reading -/
def skp (w : W) : Bool := match w with
  | [] => true
  | c :: _ => c.toNat == 35
structure PR where
  l : List Ev
  n : Int
  x : Int
def psE (r : Ev × Int) (m : Nat) : Int := if r.2 = 0 ∧ 400 ≤ m then 4 else r.2
def psR (f : W → Ev × Int) : List W → Nat → List Ev → PR
  | [], _, acc => ⟨acc, 0, 0⟩
  | w :: ws, i, acc => cond (skp w) (psR f ws (i + 1) acc) (if psE (f w) acc.length ≠ 0 then ⟨[], (i : Int) + 1, psE (f w) acc.length⟩ else psR f ws (i + 1) (acc ++ [(f w).1]))
def stF : Nat → W → Bool → List Nat
  | _, [], _ => []
  | i, c :: s, b => cond b (i :: stF (i + 1) s (c.toNat == 10)) (stF (i + 1) s (c.toNat == 10))
def no10 (t : W) : W := t.takeWhile fun c => !(c.toNat == 10)
def rlines (s : W) : List W := (stF 0 s true).map fun p => no10 (s.drop p)
def parP (s : W) : PR := if 8000 < s.length then ⟨[], 0, 4⟩ else psR (evL pOps) (spl 10 s) 0 []
def parA (s : W) : PR := if 8000 < s.length then ⟨[], 0, 4⟩ else psR (evL aOps) (rlines s) 0 []
def prL (r : PR) : List L := [.lst 42 (eEs r.l), .int .i64 r.n, .int .i64 r.x]
def k_pparse : Nat × Con := (n_script_Parse, conT (fun s => sm s.length) fun s => prL (parP s))
def k_rparse : Nat × Con := (n_codesearchref54_Parse, conT (fun s => sm s.length) fun s => prL (parA s))
/-! ### lines of the reference -/
def eNs (l : List Nat) : List (List L) := eIs (l.map fun n : Nat => (n : Int))
def k_starts : Nat × Con := (n_codesearchref01_Starts, conT (fun s => sm s.length) fun s => [.lst 3 (eNs (stF 0 s true))])
/-- Where the line that goes on at i ends. -/
def stopF (s : W) (i : Nat) : Nat := cond (Nat.blt (i + (no10 (s.drop i)).length) s.length) (i + (no10 (s.drop i)).length + 1) s.length
def k_stop : Nat × Con := (n_codesearchref01_stop, fun
  | [.lf (.str s), .lf (.int .i64 i)], [] => some (sm s.size && (leI 0 i && leI i s.size), [.int .i64 (stopF (bl s) i.toNat)])
  | _, _ => none)
def k_rlines : Nat × Con := (n_codesearchref01_Lines, conT (fun s => sm s.length) fun s => [.lst 9 (eSs (rlines s))])
end Go.Ab
namespace Go.Ab
open Go.Proofs
def wRes (x : List L) : W := it (cI 0 x) ++ 58 :: it (cI 1 x)
def wPro (x : List L) : List W := [[115, 104, 97, 114, 100], it (cI 0 x), it (cI 1 x), it (cI 2 x), it (cI 3 x)]
def rpW (rs ps : List (List L)) (c : Bool) (tot : Int) : List W := [[102, 111, 117, 110, 100], it tot, cond c [99, 111, 109, 112, 108, 101, 116, 101] [112, 97, 114, 116, 105, 97, 108]] ++ (rs.map wRes ++ ps.flatMap wPro)
def isN (k : Int) : Bool := k == 1 || (k == 4 || (k == 5 || (k == 10 || (k == 12 || (k == 13 || (k == 20 || k == 21))))))
def rpS (k err n : Int) (rs ps : List (List L)) (c : Bool) (tot : Int) : W :=
  cond (err != 0) ([101, 114, 114, 111, 114, 32] ++ it err) (cond (k == 9) (jn (rpW rs ps c tot)) (cond (isN k) ([111, 107, 32] ++ it n) [111, 107]))
def okRe (x : List L) : Bool := i64B (cI 0 x) && i64B (cI 1 x)
def okPr (x : List L) : Bool := (i64B (cI 0 x) && i64B (cI 1 x)) && (i64B (cI 2 x) && i64B (cI 3 x))
def gRp (err n : Int) (rs ps : List (List L)) (tot : Int) : Bool := (i64B err && (i64B n && i64B tot)) && ((rs.all okRe && ps.all okPr) && (Nat.ble rs.length 1000 && Nat.ble ps.length 1000))
def conRp : Con
  | [.agg [.int .i64 k, .str _, .str _, .str _, .int .i64 _, .int .i64 _, .int .i64 _, .int .i64 _, .str _, .str _, .lst 3 _, .lst 9 _, .lst 65 _, .lst 51 _], .agg [.int .i64 err, .int .i64 n, .lst 54 re, .lst 56 pr, .bool c, .int .i64 tot]], [] => some (gRp err n re pr tot, [.str (mk (rpS k err n re pr c tot))])
  | _, _ => none
def k_preply : Nat × Con := (n_script_Reply, conRp)
def k_rreply : Nat × Con := (n_codesearchref54_Reply, conRp)
end Go.Ab
namespace Go.Ab
open Go.Proofs
/-! codesearch/codesearchref54.Reply -/
noncomputable def rreply_q9 (r3 : List L) (s5 : ByteArray) (i6 : Int) : Req := .point 12 [] (todoAt Tryz.prog 12 9) ⟨[an, an, an, (.lf (.eptr 34 r3 0)), an, (.lf (.str s5)), (.lf (.int IntKind.i64 i6)), an, an, an, an, an, an, an, an, an, an, an, an, an, an, an, an, an, an, an, an, an, an, an, an, an, an, an, an, an, an, an, an, an, an, an, an, an, an, an, an, an, an, an, an, an, an, an, an, an, an, an, an, an, an, an, an, an, an, an, an, an, an, an, an, an, an, an, an, an, an, an, an, an, an, an, an, an, an, an, an, an, an, an, an, an, an, an, an, an, an, an, an, an, an, an, an, an, an, an, an, an, an, an, an], []⟩
noncomputable def rreply_q13 (r3 : List L) (s5 : ByteArray) (i7 : Int) : Req := .point 12 [] (todoAt Tryz.prog 12 13) ⟨[an, an, an, (.lf (.eptr 34 r3 0)), an, (.lf (.str s5)), an, (.lf (.int IntKind.i64 i7)), an, an, an, an, an, an, an, an, an, an, an, an, an, an, an, an, an, an, an, an, an, an, an, an, an, an, an, an, an, an, an, an, an, an, an, an, an, an, an, an, an, an, an, an, an, an, an, an, an, an, an, an, an, an, an, an, an, an, an, an, an, an, an, an, an, an, an, an, an, an, an, an, an, an, an, an, an, an, an, an, an, an, an, an, an, an, an, an, an, an, an, an, an, an, an, an, an, an, an, an, an, an, an], []⟩
theorem rreply_e (G : Req → R) (e0_0 : Int) (e0_1 : ByteArray) (e0_2 : ByteArray) (e0_3 : ByteArray) (e0_4 : Int) (e0_5 : Int) (e0_6 : Int) (e0_7 : Int) (e0_8 : ByteArray) (e0_9_0 : ByteArray) (e0_9_1 : List (List L)) (e0_9_2 : List (List L)) (e0_10 : List (List L)) (e0_11 : List (List L)) (r1_0 : Int) (r1_1 : Int) (r1_2_0 : List (List L)) (r1_2_1 : List (List L)) (r1_2_2 : Bool) (r1_3 : Int) : runB (cfgR [k_Num]) G (.enter 12 [(.agg [(.int IntKind.i64 (e0_0)), (.str (e0_1)), (.str (e0_2)), (.str (e0_3)), (.int IntKind.i64 (e0_4)), (.int IntKind.i64 (e0_5)), (.int IntKind.i64 (e0_6)), (.int IntKind.i64 (e0_7)), (.str (e0_8)), (.str (e0_9_0)), (.lst 3 e0_9_1), (.lst 9 e0_9_2), (.lst 65 e0_10), (.lst 51 e0_11)]), (.agg [(.int IntKind.i64 (r1_0)), (.int IntKind.i64 (r1_1)), (.lst 54 r1_2_0), (.lst 56 r1_2_1), (.bool (r1_2_2)), (.int IntKind.i64 (r1_3))])] []) =
  (cond (r1_0 != 0)
   (cond (i64B r1_0)
    (cond (leI (↑(6 + ByteArray.size (mk (it r1_0))) : Int) (IntKind.max IntKind.i64))
     (some [(.str (mk [101, 114, 114, 111, 114, 32] ++ mk (it r1_0)))])
     none)
    none)
   (cond (e0_0 == 9)
    (cond (i64B r1_3)
     (cond (leI (↑(6 + ByteArray.size (mk (it r1_3))) : Int) (IntKind.max IntKind.i64))
      (cond (leI (↑(ByteArray.size (mk [102, 111, 117, 110, 100, 32] ++ mk (it r1_3)) + 8) : Int) (IntKind.max IntKind.i64))
       (cond (r1_2_2)
        (cond (i64B r1_3)
         (cond (leI (↑(6 + ByteArray.size (mk (it r1_3))) : Int) (IntKind.max IntKind.i64))
          (cond (leI (↑(ByteArray.size (mk [102, 111, 117, 110, 100, 32] ++ mk (it r1_3)) + 9) : Int) (IntKind.max IntKind.i64))
           (G (rreply_q9 ([L.int IntKind.i64 r1_0, L.int IntKind.i64 r1_1, L.lst 54 r1_2_0, L.lst 56 r1_2_1, L.bool r1_2_2, L.int IntKind.i64 r1_3]) (mk [102, 111, 117, 110, 100, 32] ++ mk (it r1_3) ++ mk [32, 99, 111, 109, 112, 108, 101, 116, 101]) 0))
           none)
          none)
         none)
        (G (rreply_q9 ([L.int IntKind.i64 r1_0, L.int IntKind.i64 r1_1, L.lst 54 r1_2_0, L.lst 56 r1_2_1, L.bool r1_2_2, L.int IntKind.i64 r1_3]) (mk [102, 111, 117, 110, 100, 32] ++ mk (it r1_3) ++ mk [32, 112, 97, 114, 116, 105, 97, 108]) 0)))
       none)
      none)
     none)
    (cond (e0_0 == 1)
     (cond (i64B r1_1)
      (cond (leI (↑(3 + ByteArray.size (mk (it r1_1))) : Int) (IntKind.max IntKind.i64))
       (some [(.str (mk [111, 107, 32] ++ mk (it r1_1)))])
       none)
      none)
     (cond (e0_0 == 4)
      (cond (i64B r1_1)
       (cond (leI (↑(3 + ByteArray.size (mk (it r1_1))) : Int) (IntKind.max IntKind.i64))
        (some [(.str (mk [111, 107, 32] ++ mk (it r1_1)))])
        none)
       none)
      (cond (e0_0 == 5)
       (cond (i64B r1_1)
        (cond (leI (↑(3 + ByteArray.size (mk (it r1_1))) : Int) (IntKind.max IntKind.i64))
         (some [(.str (mk [111, 107, 32] ++ mk (it r1_1)))])
         none)
        none)
       (cond (e0_0 == 10)
        (cond (i64B r1_1)
         (cond (leI (↑(3 + ByteArray.size (mk (it r1_1))) : Int) (IntKind.max IntKind.i64))
          (some [(.str (mk [111, 107, 32] ++ mk (it r1_1)))])
          none)
         none)
        (cond (e0_0 == 12)
         (cond (i64B r1_1)
          (cond (leI (↑(3 + ByteArray.size (mk (it r1_1))) : Int) (IntKind.max IntKind.i64))
           (some [(.str (mk [111, 107, 32] ++ mk (it r1_1)))])
           none)
          none)
         (cond (e0_0 == 13)
          (cond (i64B r1_1)
           (cond (leI (↑(3 + ByteArray.size (mk (it r1_1))) : Int) (IntKind.max IntKind.i64))
            (some [(.str (mk [111, 107, 32] ++ mk (it r1_1)))])
            none)
           none)
          (cond (e0_0 == 20)
           (cond (i64B r1_1)
            (cond (leI (↑(3 + ByteArray.size (mk (it r1_1))) : Int) (IntKind.max IntKind.i64))
             (some [(.str (mk [111, 107, 32] ++ mk (it r1_1)))])
             none)
            none)
           (cond (e0_0 == 21)
            (cond (i64B r1_1)
             (cond (leI (↑(3 + ByteArray.size (mk (it r1_1))) : Int) (IntKind.max IntKind.i64))
              (some [(.str (mk [111, 107, 32] ++ mk (it r1_1)))])
              none)
             none)
            (some [(.str (mk [111, 107]))]))))))))))) := by kernel_rfl
theorem rreply_p9 (G : Req → R) (r3 : List L) (s5 : ByteArray) (i6 : Int) : runB (cfgR [k_Num]) G (rreply_q9 r3 s5 i6) =
  (cond (ltI i6 (↑(List.length (cX 2 r3)) : Int))
   (cond (leI 0 i6 && ltI i6 (↑(List.length (cX 2 r3)) : Int))
    (cond (leI 0 i6 && ltI i6 (↑(List.length (cX 2 r3)) : Int))
     (cond (i64B (cI 0 (atL (cX 2 r3) i6)))
      (cond (leI (↑(1 + ByteArray.size (mk (it (cI 0 (atL (cX 2 r3) i6))))) : Int) (IntKind.max IntKind.i64))
       (cond (leI (↑(ByteArray.size (mk [32] ++ mk (it (cI 0 (atL (cX 2 r3) i6)))) + 1) : Int) (IntKind.max IntKind.i64))
        (cond (i64B (cI 1 (atL (cX 2 r3) i6)))
         (cond (leI (↑(ByteArray.size (mk [32] ++ mk (it (cI 0 (atL (cX 2 r3) i6))) ++ mk [58]) + ByteArray.size (mk (it (cI 1 (atL (cX 2 r3) i6))))) : Int) (IntKind.max IntKind.i64))
          (cond (leI (↑(ByteArray.size s5 + ByteArray.size (mk [32] ++ mk (it (cI 0 (atL (cX 2 r3) i6))) ++ mk [58] ++ mk (it (cI 1 (atL (cX 2 r3) i6))))) : Int) (IntKind.max IntKind.i64))
           (G (rreply_q9 r3 (s5 ++ (mk [32] ++ mk (it (cI 0 (atL (cX 2 r3) i6))) ++ mk [58] ++ mk (it (cI 1 (atL (cX 2 r3) i6))))) (wrapI IntKind.i64 (i6 + 1))))
           none)
          none)
         none)
        none)
       none)
      none)
     none)
    none)
   (G (rreply_q13 r3 s5 0))) := by kernel_rfl
theorem rreply_p13 (G : Req → R) (r3 : List L) (s5 : ByteArray) (i7 : Int) : runB (cfgR [k_Num]) G (rreply_q13 r3 s5 i7) =
  (cond (ltI i7 (↑(List.length (cX 3 r3)) : Int))
   (cond (leI 0 i7 && ltI i7 (↑(List.length (cX 3 r3)) : Int))
    (cond (i64B (cI 0 (atL (cX 3 r3) i7)))
     (cond (leI (↑(7 + ByteArray.size (mk (it (cI 0 (atL (cX 3 r3) i7))))) : Int) (IntKind.max IntKind.i64))
      (cond (leI (↑(ByteArray.size (mk [32, 115, 104, 97, 114, 100, 32] ++ mk (it (cI 0 (atL (cX 3 r3) i7)))) + 1) : Int) (IntKind.max IntKind.i64))
       (cond (i64B (cI 1 (atL (cX 3 r3) i7)))
        (cond (leI (↑(ByteArray.size (mk [32, 115, 104, 97, 114, 100, 32] ++ mk (it (cI 0 (atL (cX 3 r3) i7))) ++ mk [32]) + ByteArray.size (mk (it (cI 1 (atL (cX 3 r3) i7))))) : Int) (IntKind.max IntKind.i64))
         (cond (leI (↑(ByteArray.size (mk [32, 115, 104, 97, 114, 100, 32] ++ mk (it (cI 0 (atL (cX 3 r3) i7))) ++ mk [32] ++ mk (it (cI 1 (atL (cX 3 r3) i7)))) + 1) : Int) (IntKind.max IntKind.i64))
          (cond (i64B (cI 2 (atL (cX 3 r3) i7)))
           (cond (leI (↑(ByteArray.size (mk [32, 115, 104, 97, 114, 100, 32] ++ mk (it (cI 0 (atL (cX 3 r3) i7))) ++ mk [32] ++ mk (it (cI 1 (atL (cX 3 r3) i7))) ++ mk [32]) + ByteArray.size (mk (it (cI 2 (atL (cX 3 r3) i7))))) : Int) (IntKind.max IntKind.i64))
            (cond (leI (↑(ByteArray.size (mk [32, 115, 104, 97, 114, 100, 32] ++ mk (it (cI 0 (atL (cX 3 r3) i7))) ++ mk [32] ++ mk (it (cI 1 (atL (cX 3 r3) i7))) ++ mk [32] ++ mk (it (cI 2 (atL (cX 3 r3) i7)))) + 1) : Int) (IntKind.max IntKind.i64))
             (cond (i64B (cI 3 (atL (cX 3 r3) i7)))
              (cond (leI (↑(ByteArray.size (mk [32, 115, 104, 97, 114, 100, 32] ++ mk (it (cI 0 (atL (cX 3 r3) i7))) ++ mk [32] ++ mk (it (cI 1 (atL (cX 3 r3) i7))) ++ mk [32] ++ mk (it (cI 2 (atL (cX 3 r3) i7))) ++ mk [32]) + ByteArray.size (mk (it (cI 3 (atL (cX 3 r3) i7))))) : Int) (IntKind.max IntKind.i64))
               (cond (leI (↑(ByteArray.size s5 + ByteArray.size (mk [32, 115, 104, 97, 114, 100, 32] ++ mk (it (cI 0 (atL (cX 3 r3) i7))) ++ mk [32] ++ mk (it (cI 1 (atL (cX 3 r3) i7))) ++ mk [32] ++ mk (it (cI 2 (atL (cX 3 r3) i7))) ++ mk [32] ++ mk (it (cI 3 (atL (cX 3 r3) i7))))) : Int) (IntKind.max IntKind.i64))
                (G (rreply_q13 r3 (s5 ++ (mk [32, 115, 104, 97, 114, 100, 32] ++ mk (it (cI 0 (atL (cX 3 r3) i7))) ++ mk [32] ++ mk (it (cI 1 (atL (cX 3 r3) i7))) ++ mk [32] ++ mk (it (cI 2 (atL (cX 3 r3) i7))) ++ mk [32] ++ mk (it (cI 3 (atL (cX 3 r3) i7))))) (wrapI IntKind.i64 (i7 + 1))))
                none)
               none)
              none)
             none)
            none)
           none)
          none)
         none)
        none)
       none)
      none)
     none)
    none)
   (some [(.str (s5))])) := by kernel_rfl

end Go.Ab
namespace Go.Ab
open Go.Proofs
def k_alive : Nat × Con := (n_codesearchlaw54_alive, fun
  | [], [] => some (true, [.bool true])
  | _, _ => none)
def le2 (w : W) : Bool := Nat.ble w.length 200
def sm1 (e : Ev) : Bool := ((Nat.ble e.writes.length 6 && Nat.ble e.rules.length 6) && (Nat.ble e.users.length 6 && Nat.ble e.groups.length 6)) && (((le2 e.text && le2 e.other) && (le2 e.name && (le2 e.repo && le2 e.gname))) &&
  (e.writes.all (fun x => le2 x.2.1 && le2 x.1) && (e.rules.all (fun x => le2 x.2.1 && (le2 x.2.2.1 && le2 x.2.2.2)) && e.groups.all le2)))
def smallB (l : List Ev) : Bool := Nat.ble l.length 10 && l.all sm1
noncomputable def k_small : Nat × Con := (n_codesearchlaw54_small, fun
  | [.lf (.lst 42 xs)], [] => some (isEs xs, [.bool (smallB (dEs xs))])
  | _, _ => none)
end Go.Ab
namespace Go.Ab
open Go.Proofs
/-! codesearch/codesearchlaw54.alive -/
theorem alive_e (G : Req → R) : runB (cfg [k_pparse, k_SameList, k_pline, k_preply]) G (.enter 7 [] []) =
  (cond (isEs (eEs (PR.l (parP (bl (mk [114, 101, 112, 111, 32, 99, 111, 114, 101, 10, 35, 32, 120, 10, 116, 105, 99, 107, 32, 51, 10]))))) && (isEs [[L.int IntKind.i64 22, L.str (mk [99, 111, 114, 101]), L.str (mk []), L.str (mk []), L.int IntKind.i64 0, L.int IntKind.i64 0, L.int IntKind.i64 0, L.int IntKind.i64 0, L.str (mk []), L.str (mk []), L.lst 3 [], L.lst 9 [], L.lst 65 [], L.lst 51 []], [L.int IntKind.i64 14, L.str (mk []), L.str (mk []), L.str (mk []), L.int IntKind.i64 0, L.int IntKind.i64 3, L.int IntKind.i64 0, L.int IntKind.i64 0, L.str (mk []), L.str (mk []), L.lst 3 [], L.lst 9 [], L.lst 65 [], L.lst 51 []]] && true))
   (cond (isLs [] [] [] [[L.str (mk [97]), L.str (mk [120, 10]), L.bool false], [L.str (mk [98]), L.str (mk []), L.bool true]] && true)
    (some [(.bool (true))])
    none)
   none) := by kernel_rfl

/-! codesearch/codesearchlaw54.small -/
noncomputable def small_q4 (l0 : List (List L)) (i3 : Int) : Req := .point 13 [] (todoAt Tryz.prog 13 4) ⟨[(.lf (.lst 42 l0)), an, an, (.lf (.int IntKind.i64 i3)), an, an, an, an, an, an, an, an, an, an, an, an, an, an, an, an, an, an, an, an, an, an, an, an, an, an, an, an, an, an, an, an, an, an, an, an, an, an, an, an, an, an, an, an, an, an, an, an, an, an, an, an, an, an, an, an, an, an, an, an, an, an, an, an, an, an, an, an, an, an, an, an, an, an, an, an, an, an, an, an, an, an, an, an, an, an, an, an, an, an, an, an, an, an, an, an, an, an, an, an, an, an, an, an, an, an, an, an, an, an, an, an, an, an, an, an, an, an, an, an, an, an, an, an, an, an, an, an, an, an, an, an, an, an, an, an, an, an, an, an, an, an, an, an, an, an, an, an], []⟩
noncomputable def small_q10 (l0 : List (List L)) (i3 : Int) (k5 : Int) (h0_0 : Int) (h0_1 : ByteArray) (h0_2 : ByteArray) (h0_3 : ByteArray) (h0_4 : Int) (h0_5 : Int) (h0_6 : Int) (h0_7 : Int) (h0_8 : ByteArray) (h0_9 : ByteArray) (h0_10 : List (List L)) (h0_11 : List (List L)) (h0_12 : List (List L)) (h0_13 : List (List L)) : Req := .point 13 [] (todoAt Tryz.prog 13 10) ⟨[(.lf (.lst 42 l0)), an, an, (.lf (.int IntKind.i64 i3)), (.lf (.ptr 0 0)), (.lf (.int IntKind.i64 k5)), an, an, an, an, an, an, an, an, an, an, an, an, an, an, an, an, an, an, an, an, an, an, an, an, an, an, an, an, an, an, an, an, an, an, an, an, an, an, an, an, an, an, an, an, an, an, an, an, an, an, an, an, an, an, an, an, an, an, an, an, an, an, an, an, an, an, an, an, an, an, an, an, an, an, an, an, an, an, an, an, an, an, an, an, an, an, an, an, an, an, an, an, an, an, an, an, an, an, an, an, an, an, an, an, an, an, an, an, an, an, an, an, an, an, an, an, an, an, an, an, an, an, an, an, an, an, an, an, an, an, an, an, an, an, an, an, an, an, an, an, an, an, an, an, an, an], [(.box [(.int IntKind.i64), .str, .str, .str, (.int IntKind.i64), (.int IntKind.i64), (.int IntKind.i64), (.int IntKind.i64), .str, .str, (.sl 3), (.sl 9), (.sl 65), (.sl 51)] [(.int IntKind.i64 h0_0), (.str h0_1), (.str h0_2), (.str h0_3), (.int IntKind.i64 h0_4), (.int IntKind.i64 h0_5), (.int IntKind.i64 h0_6), (.int IntKind.i64 h0_7), (.str h0_8), (.str h0_9), (.lst 3 h0_10), (.lst 9 h0_11), (.lst 65 h0_12), (.lst 51 h0_13)])]⟩
noncomputable def small_q15 (l0 : List (List L)) (i3 : Int) (k6 : Int) (h0_0 : Int) (h0_1 : ByteArray) (h0_2 : ByteArray) (h0_3 : ByteArray) (h0_4 : Int) (h0_5 : Int) (h0_6 : Int) (h0_7 : Int) (h0_8 : ByteArray) (h0_9 : ByteArray) (h0_10 : List (List L)) (h0_11 : List (List L)) (h0_12 : List (List L)) (h0_13 : List (List L)) : Req := .point 13 [] (todoAt Tryz.prog 13 15) ⟨[(.lf (.lst 42 l0)), an, an, (.lf (.int IntKind.i64 i3)), (.lf (.ptr 0 0)), an, (.lf (.int IntKind.i64 k6)), an, an, an, an, an, an, an, an, an, an, an, an, an, an, an, an, an, an, an, an, an, an, an, an, an, an, an, an, an, an, an, an, an, an, an, an, an, an, an, an, an, an, an, an, an, an, an, an, an, an, an, an, an, an, an, an, an, an, an, an, an, an, an, an, an, an, an, an, an, an, an, an, an, an, an, an, an, an, an, an, an, an, an, an, an, an, an, an, an, an, an, an, an, an, an, an, an, an, an, an, an, an, an, an, an, an, an, an, an, an, an, an, an, an, an, an, an, an, an, an, an, an, an, an, an, an, an, an, an, an, an, an, an, an, an, an, an, an, an, an, an, an, an, an, an], [(.box [(.int IntKind.i64), .str, .str, .str, (.int IntKind.i64), (.int IntKind.i64), (.int IntKind.i64), (.int IntKind.i64), .str, .str, (.sl 3), (.sl 9), (.sl 65), (.sl 51)] [(.int IntKind.i64 h0_0), (.str h0_1), (.str h0_2), (.str h0_3), (.int IntKind.i64 h0_4), (.int IntKind.i64 h0_5), (.int IntKind.i64 h0_6), (.int IntKind.i64 h0_7), (.str h0_8), (.str h0_9), (.lst 3 h0_10), (.lst 9 h0_11), (.lst 65 h0_12), (.lst 51 h0_13)])]⟩
noncomputable def small_q20 (l0 : List (List L)) (i3 : Int) (k7 : Int) (h0_0 : Int) (h0_1 : ByteArray) (h0_2 : ByteArray) (h0_3 : ByteArray) (h0_4 : Int) (h0_5 : Int) (h0_6 : Int) (h0_7 : Int) (h0_8 : ByteArray) (h0_9 : ByteArray) (h0_10 : List (List L)) (h0_11 : List (List L)) (h0_12 : List (List L)) (h0_13 : List (List L)) : Req := .point 13 [] (todoAt Tryz.prog 13 20) ⟨[(.lf (.lst 42 l0)), an, an, (.lf (.int IntKind.i64 i3)), (.lf (.ptr 0 0)), an, an, (.lf (.int IntKind.i64 k7)), an, an, an, an, an, an, an, an, an, an, an, an, an, an, an, an, an, an, an, an, an, an, an, an, an, an, an, an, an, an, an, an, an, an, an, an, an, an, an, an, an, an, an, an, an, an, an, an, an, an, an, an, an, an, an, an, an, an, an, an, an, an, an, an, an, an, an, an, an, an, an, an, an, an, an, an, an, an, an, an, an, an, an, an, an, an, an, an, an, an, an, an, an, an, an, an, an, an, an, an, an, an, an, an, an, an, an, an, an, an, an, an, an, an, an, an, an, an, an, an, an, an, an, an, an, an, an, an, an, an, an, an, an, an, an, an, an, an, an, an, an, an, an, an], [(.box [(.int IntKind.i64), .str, .str, .str, (.int IntKind.i64), (.int IntKind.i64), (.int IntKind.i64), (.int IntKind.i64), .str, .str, (.sl 3), (.sl 9), (.sl 65), (.sl 51)] [(.int IntKind.i64 h0_0), (.str h0_1), (.str h0_2), (.str h0_3), (.int IntKind.i64 h0_4), (.int IntKind.i64 h0_5), (.int IntKind.i64 h0_6), (.int IntKind.i64 h0_7), (.str h0_8), (.str h0_9), (.lst 3 h0_10), (.lst 9 h0_11), (.lst 65 h0_12), (.lst 51 h0_13)])]⟩
theorem small_e (G : Req → R) (l0 : List (List L)) : runB (cfg []) G (.enter 13 [(.lf (.lst 42 l0))] []) =
  (cond (ltI 10 (↑(List.length l0) : Int))
   (some [(.bool (false))])
   (G (small_q4 l0 0))) := by kernel_rfl
theorem small_p4 (G : Req → R) (l0 : List (List L)) (i3 : Int) : runB (cfg []) G (small_q4 l0 i3) =
  (cond (ltI i3 (↑(List.length l0) : Int))
   (cond (leI 0 i3 && ltI i3 (↑(List.length l0) : Int))
    (cond (ltI 6 (↑(List.length (cX 13 (atL l0 i3))) : Int))
     (some [(.bool (false))])
     (cond (ltI 6 (↑(List.length (cX 12 (atL l0 i3))) : Int))
      (some [(.bool (false))])
      (cond (ltI 6 (↑(List.length (cX 10 (atL l0 i3))) : Int))
       (some [(.bool (false))])
       (cond (ltI 6 (↑(List.length (cX 11 (atL l0 i3))) : Int))
        (some [(.bool (false))])
        (cond (ltI 200 (↑(ByteArray.size (cT 8 (atL l0 i3))) : Int))
         (some [(.bool (false))])
         (cond (ltI 200 (↑(ByteArray.size (cT 3 (atL l0 i3))) : Int))
          (some [(.bool (false))])
          (cond (ltI 200 (↑(ByteArray.size (cT 2 (atL l0 i3))) : Int))
           (some [(.bool (false))])
           (cond (ltI 200 (↑(ByteArray.size (cT 1 (atL l0 i3))) : Int))
            (some [(.bool (false))])
            (cond (ltI 200 (↑(ByteArray.size (cT 9 (atL l0 i3))) : Int))
             (some [(.bool (false))])
             (G (small_q10 l0 i3 0 (cI 0 (atL l0 i3)) (cT 1 (atL l0 i3)) (cT 2 (atL l0 i3)) (cT 3 (atL l0 i3)) (cI 4 (atL l0 i3)) (cI 5 (atL l0 i3)) (cI 6 (atL l0 i3)) (cI 7 (atL l0 i3)) (cT 8 (atL l0 i3)) (cT 9 (atL l0 i3)) (cX 10 (atL l0 i3)) (cX 11 (atL l0 i3)) (cX 12 (atL l0 i3)) (cX 13 (atL l0 i3)))))))))))))
    none)
   (some [(.bool (true))])) := by kernel_rfl
theorem small_p10 (G : Req → R) (l0 : List (List L)) (i3 : Int) (k5 : Int) (h0_0 : Int) (h0_1 : ByteArray) (h0_2 : ByteArray) (h0_3 : ByteArray) (h0_4 : Int) (h0_5 : Int) (h0_6 : Int) (h0_7 : Int) (h0_8 : ByteArray) (h0_9 : ByteArray) (h0_10 : List (List L)) (h0_11 : List (List L)) (h0_12 : List (List L)) (h0_13 : List (List L)) : runB (cfg []) G (small_q10 l0 i3 k5 h0_0 h0_1 h0_2 h0_3 h0_4 h0_5 h0_6 h0_7 h0_8 h0_9 h0_10 h0_11 h0_12 h0_13) =
  (cond (ltI k5 (↑(List.length h0_13) : Int))
   (cond (leI 0 k5 && ltI k5 (↑(List.length h0_13) : Int))
    (cond (ltI 200 (↑(ByteArray.size (cT 1 (atL h0_13 k5))) : Int))
     (some [(.bool (false))])
     (cond (leI 0 k5 && ltI k5 (↑(List.length h0_13) : Int))
      (cond (ltI 200 (↑(ByteArray.size (cT 0 (atL h0_13 k5))) : Int))
       (some [(.bool (false))])
       (G (small_q10 l0 i3 (wrapI IntKind.i64 (k5 + 1)) h0_0 h0_1 h0_2 h0_3 h0_4 h0_5 h0_6 h0_7 h0_8 h0_9 h0_10 h0_11 h0_12 h0_13)))
      none))
    none)
   (G (small_q15 l0 i3 0 h0_0 h0_1 h0_2 h0_3 h0_4 h0_5 h0_6 h0_7 h0_8 h0_9 h0_10 h0_11 h0_12 h0_13))) := by kernel_rfl
theorem small_p15 (G : Req → R) (l0 : List (List L)) (i3 : Int) (k6 : Int) (h0_0 : Int) (h0_1 : ByteArray) (h0_2 : ByteArray) (h0_3 : ByteArray) (h0_4 : Int) (h0_5 : Int) (h0_6 : Int) (h0_7 : Int) (h0_8 : ByteArray) (h0_9 : ByteArray) (h0_10 : List (List L)) (h0_11 : List (List L)) (h0_12 : List (List L)) (h0_13 : List (List L)) : runB (cfg []) G (small_q15 l0 i3 k6 h0_0 h0_1 h0_2 h0_3 h0_4 h0_5 h0_6 h0_7 h0_8 h0_9 h0_10 h0_11 h0_12 h0_13) =
  (cond (ltI k6 (↑(List.length h0_12) : Int))
   (cond (leI 0 k6 && ltI k6 (↑(List.length h0_12) : Int))
    (cond (ltI 200 (↑(ByteArray.size (cT 1 (atL h0_12 k6))) : Int))
     (some [(.bool (false))])
     (cond (leI 0 k6 && ltI k6 (↑(List.length h0_12) : Int))
      (cond (ltI 200 (↑(ByteArray.size (cT 2 (atL h0_12 k6))) : Int))
       (some [(.bool (false))])
       (cond (leI 0 k6 && ltI k6 (↑(List.length h0_12) : Int))
        (cond (ltI 200 (↑(ByteArray.size (cT 3 (atL h0_12 k6))) : Int))
         (some [(.bool (false))])
         (G (small_q15 l0 i3 (wrapI IntKind.i64 (k6 + 1)) h0_0 h0_1 h0_2 h0_3 h0_4 h0_5 h0_6 h0_7 h0_8 h0_9 h0_10 h0_11 h0_12 h0_13)))
        none))
      none))
    none)
   (G (small_q20 l0 i3 0 h0_0 h0_1 h0_2 h0_3 h0_4 h0_5 h0_6 h0_7 h0_8 h0_9 h0_10 h0_11 h0_12 h0_13))) := by kernel_rfl
theorem small_p20 (G : Req → R) (l0 : List (List L)) (i3 : Int) (k7 : Int) (h0_0 : Int) (h0_1 : ByteArray) (h0_2 : ByteArray) (h0_3 : ByteArray) (h0_4 : Int) (h0_5 : Int) (h0_6 : Int) (h0_7 : Int) (h0_8 : ByteArray) (h0_9 : ByteArray) (h0_10 : List (List L)) (h0_11 : List (List L)) (h0_12 : List (List L)) (h0_13 : List (List L)) : runB (cfg []) G (small_q20 l0 i3 k7 h0_0 h0_1 h0_2 h0_3 h0_4 h0_5 h0_6 h0_7 h0_8 h0_9 h0_10 h0_11 h0_12 h0_13) =
  (cond (ltI k7 (↑(List.length h0_11) : Int))
   (cond (leI 0 k7 && ltI k7 (↑(List.length h0_11) : Int))
    (cond (ltI 200 (↑(ByteArray.size (cT 0 (atL h0_11 k7))) : Int))
     (some [(.bool (false))])
     (G (small_q20 l0 i3 (wrapI IntKind.i64 (k7 + 1)) h0_0 h0_1 h0_2 h0_3 h0_4 h0_5 h0_6 h0_7 h0_8 h0_9 h0_10 h0_11 h0_12 h0_13)))
    none)
   (G (small_q4 l0 (wrapI IntKind.i64 (i3 + 1))))) := by kernel_rfl

/-! codesearch/codesearchlaw54.ScriptParses -/
theorem lParses_e (G : Req → R) (s0 : ByteArray) : runB (cfg [k_alive, k_pparse, k_rparse, k_SameList]) G (.enter 3 [(.lf (.str (s0)))] []) =
  (cond (ltI 2000 (↑(ByteArray.size s0) : Int))
   (some [(.bool (true))])
   (cond (sm (List.length (bl s0)))
    (cond (sm (List.length (bl s0)))
     (cond (PR.x (parP (bl s0)) == PR.x (parA (bl s0)))
      (cond (PR.n (parP (bl s0)) == PR.n (parA (bl s0)))
       (cond (isEs (eEs (PR.l (parP (bl s0)))) && (isEs (eEs (PR.l (parA (bl s0)))) && (sm (List.length (eEs (PR.l (parA (bl s0))))) && List.all (dEs (eEs (PR.l (parA (bl s0))))) smE)))
        (some [(.bool (decide (dEs (eEs (PR.l (parP (bl s0)))) = dEs (eEs (PR.l (parA (bl s0)))))))])
        none)
       (some [(.bool (false))]))
      (some [(.bool (false))]))
     none)
    none)) := by kernel_rfl

/-! codesearch/codesearchlaw54.ScriptPrints -/
noncomputable def lPrints_q10 (l0 : List (List L)) (i7 : Int) : Req := .point 5 [] (todoAt Tryz.prog 5 10) ⟨[(.lf (.lst 42 l0)), an, an, an, an, an, an, (.lf (.int IntKind.i64 i7)), an, an, an, an, an, an, an, an, an, an, an, an, an, an, an, an, an, an, an, an, an, an, an, an, an, an, an, an, an, an, an, an, an, an, an, an, an, an, an, an, an, an, an, an, an, an, an, an, an, an, an, an, an, an, an, an, an], []⟩
theorem lPrints_e (G : Req → R) (l0 : List (List L)) : runB (cfg [k_alive, k_small, k_pprint, k_rprint, k_pline, k_rline]) G (.enter 5 [(.lf (.lst 42 l0))] []) =
  (cond (isEs l0)
   (cond (!smallB (dEs l0))
    (some [(.bool (true))])
    (cond (isEs l0 && (Nat.ble (List.length l0) 10000 && List.all (dEs l0) gLn))
     (cond (isEs l0 && (Nat.ble (List.length l0) 10000 && List.all (dEs l0) gRl))
      (cond (Prod.snd (prR lnR (dEs l0) []) != Prod.snd (prR rlnR (dEs l0) []))
       (some [(.bool (false))])
       (cond (!bl (mk (Prod.fst (prR lnR (dEs l0) []))) == bl (mk (Prod.fst (prR rlnR (dEs l0) []))))
        (some [(.bool (false))])
        (G (lPrints_q10 l0 0))))
      none)
     none))
   none) := by kernel_rfl
theorem lPrints_p10 (G : Req → R) (l0 : List (List L)) (i7 : Int) : runB (cfg [k_alive, k_small, k_pprint, k_rprint, k_pline, k_rline]) G (lPrints_q10 l0 i7) =
  (cond (ltI i7 (↑(List.length l0) : Int))
   (cond (leI 0 i7 && ltI i7 (↑(List.length l0) : Int))
    (cond (isLs (cX 10 (atL l0 i7)) (cX 11 (atL l0 i7)) (cX 12 (atL l0 i7)) (cX 13 (atL l0 i7)) && gLn (Ev.mk (cI 0 (atL l0 i7)) (bl (cT 1 (atL l0 i7))) (bl (cT 2 (atL l0 i7))) (bl (cT 3 (atL l0 i7))) (cI 4 (atL l0 i7)) (cI 5 (atL l0 i7)) (cI 6 (atL l0 i7)) (cI 7 (atL l0 i7)) (bl (cT 8 (atL l0 i7))) (bl (cT 9 (atL l0 i7))) (dIs (cX 10 (atL l0 i7))) (dSs (cX 11 (atL l0 i7))) (dRs (cX 12 (atL l0 i7))) (dWs (cX 13 (atL l0 i7)))))
     (cond (leI 0 i7 && ltI i7 (↑(List.length l0) : Int))
      (cond (isLs (cX 10 (atL l0 i7)) (cX 11 (atL l0 i7)) (cX 12 (atL l0 i7)) (cX 13 (atL l0 i7)) && gRl (Ev.mk (cI 0 (atL l0 i7)) (bl (cT 1 (atL l0 i7))) (bl (cT 2 (atL l0 i7))) (bl (cT 3 (atL l0 i7))) (cI 4 (atL l0 i7)) (cI 5 (atL l0 i7)) (cI 6 (atL l0 i7)) (cI 7 (atL l0 i7)) (bl (cT 8 (atL l0 i7))) (bl (cT 9 (atL l0 i7))) (dIs (cX 10 (atL l0 i7))) (dSs (cX 11 (atL l0 i7))) (dRs (cX 12 (atL l0 i7))) (dWs (cX 13 (atL l0 i7)))))
       (cond (Prod.snd (lnR (Ev.mk (cI 0 (atL l0 i7)) (bl (cT 1 (atL l0 i7))) (bl (cT 2 (atL l0 i7))) (bl (cT 3 (atL l0 i7))) (cI 4 (atL l0 i7)) (cI 5 (atL l0 i7)) (cI 6 (atL l0 i7)) (cI 7 (atL l0 i7)) (bl (cT 8 (atL l0 i7))) (bl (cT 9 (atL l0 i7))) (dIs (cX 10 (atL l0 i7))) (dSs (cX 11 (atL l0 i7))) (dRs (cX 12 (atL l0 i7))) (dWs (cX 13 (atL l0 i7))))) != Prod.snd (rlnR (Ev.mk (cI 0 (atL l0 i7)) (bl (cT 1 (atL l0 i7))) (bl (cT 2 (atL l0 i7))) (bl (cT 3 (atL l0 i7))) (cI 4 (atL l0 i7)) (cI 5 (atL l0 i7)) (cI 6 (atL l0 i7)) (cI 7 (atL l0 i7)) (bl (cT 8 (atL l0 i7))) (bl (cT 9 (atL l0 i7))) (dIs (cX 10 (atL l0 i7))) (dSs (cX 11 (atL l0 i7))) (dRs (cX 12 (atL l0 i7))) (dWs (cX 13 (atL l0 i7))))))
        (some [(.bool (false))])
        (cond (!bl (mk (Prod.fst (lnR (Ev.mk (cI 0 (atL l0 i7)) (bl (cT 1 (atL l0 i7))) (bl (cT 2 (atL l0 i7))) (bl (cT 3 (atL l0 i7))) (cI 4 (atL l0 i7)) (cI 5 (atL l0 i7)) (cI 6 (atL l0 i7)) (cI 7 (atL l0 i7)) (bl (cT 8 (atL l0 i7))) (bl (cT 9 (atL l0 i7))) (dIs (cX 10 (atL l0 i7))) (dSs (cX 11 (atL l0 i7))) (dRs (cX 12 (atL l0 i7))) (dWs (cX 13 (atL l0 i7))))))) == bl (mk (Prod.fst (rlnR (Ev.mk (cI 0 (atL l0 i7)) (bl (cT 1 (atL l0 i7))) (bl (cT 2 (atL l0 i7))) (bl (cT 3 (atL l0 i7))) (cI 4 (atL l0 i7)) (cI 5 (atL l0 i7)) (cI 6 (atL l0 i7)) (cI 7 (atL l0 i7)) (bl (cT 8 (atL l0 i7))) (bl (cT 9 (atL l0 i7))) (dIs (cX 10 (atL l0 i7))) (dSs (cX 11 (atL l0 i7))) (dRs (cX 12 (atL l0 i7))) (dWs (cX 13 (atL l0 i7))))))))
         (some [(.bool (false))])
         (G (lPrints_q10 l0 (wrapI IntKind.i64 (i7 + 1))))))
       none)
      none)
     none)
    none)
   (some [(.bool (true))])) := by kernel_rfl

/-! codesearch/codesearchlaw54.ScriptBack -/
theorem lBack_e (G : Req → R) (l0 : List (List L)) (s1 : ByteArray) : runB (cfg [k_alive, k_small, k_pprint, k_pparse, k_SameList]) G (.enter 6 [(.lf (.lst 42 l0)), (.lf (.str (s1)))] []) =
  (cond (isEs l0)
   (cond (!smallB (dEs l0))
    (some [(.bool (true))])
    (cond (ltI 2000 (↑(ByteArray.size s1) : Int))
     (some [(.bool (true))])
     (cond (isEs l0 && (Nat.ble (List.length l0) 10000 && List.all (dEs l0) gLn))
      (cond (Prod.snd (prR lnR (dEs l0) []) == 0)
       (cond (leI (↑(ByteArray.size (mk (Prod.fst (prR lnR (dEs l0) [])))) : Int) 8000)
        (cond (sm (List.length (bl (mk (Prod.fst (prR lnR (dEs l0) []))))))
         (cond (PR.x (parP (bl (mk (Prod.fst (prR lnR (dEs l0) []))))) != 0)
          (some [(.bool (false))])
          (cond (PR.n (parP (bl (mk (Prod.fst (prR lnR (dEs l0) []))))) != 0)
           (some [(.bool (false))])
           (cond (isEs (eEs (PR.l (parP (bl (mk (Prod.fst (prR lnR (dEs l0) []))))))) && (isEs l0 && (sm (List.length l0) && List.all (dEs l0) smE)))
            (cond (!decide (dEs (eEs (PR.l (parP (bl (mk (Prod.fst (prR lnR (dEs l0) []))))))) = dEs l0))
             (some [(.bool (false))])
             (cond (sm (List.length (bl s1)))
              (cond (PR.x (parP (bl s1)) != 0)
               (some [(.bool ((↑(List.length (eEs (PR.l (parP (bl s1))))) : Int) == 0))])
               (cond (isEs (eEs (PR.l (parP (bl s1)))) && (Nat.ble (List.length (eEs (PR.l (parP (bl s1))))) 10000 && List.all (dEs (eEs (PR.l (parP (bl s1))))) gLn))
                (cond (Prod.snd (prR lnR (dEs (eEs (PR.l (parP (bl s1))))) []) != 0)
                 (some [(.bool (false))])
                 (cond (sm (List.length (bl (mk (Prod.fst (prR lnR (dEs (eEs (PR.l (parP (bl s1))))) []))))))
                  (cond (ltI 8000 (↑(ByteArray.size (mk (Prod.fst (prR lnR (dEs (eEs (PR.l (parP (bl s1))))) [])))) : Int))
                   (some [(.bool (true))])
                   (cond (PR.x (parP (bl (mk (Prod.fst (prR lnR (dEs (eEs (PR.l (parP (bl s1))))) []))))) == 0)
                    (cond (isEs (eEs (PR.l (parP (bl (mk (Prod.fst (prR lnR (dEs (eEs (PR.l (parP (bl s1))))) []))))))) && (isEs (eEs (PR.l (parP (bl s1)))) && (sm (List.length (eEs (PR.l (parP (bl s1))))) && List.all (dEs (eEs (PR.l (parP (bl s1))))) smE)))
                     (some [(.bool (decide (dEs (eEs (PR.l (parP (bl (mk (Prod.fst (prR lnR (dEs (eEs (PR.l (parP (bl s1))))) []))))))) = dEs (eEs (PR.l (parP (bl s1)))))))])
                     none)
                    (some [(.bool (false))])))
                  none))
                none))
              none))
            none)))
         none)
        (cond (sm (List.length (bl s1)))
         (cond (PR.x (parP (bl s1)) != 0)
          (some [(.bool ((↑(List.length (eEs (PR.l (parP (bl s1))))) : Int) == 0))])
          (cond (isEs (eEs (PR.l (parP (bl s1)))) && (Nat.ble (List.length (eEs (PR.l (parP (bl s1))))) 10000 && List.all (dEs (eEs (PR.l (parP (bl s1))))) gLn))
           (cond (Prod.snd (prR lnR (dEs (eEs (PR.l (parP (bl s1))))) []) != 0)
            (some [(.bool (false))])
            (cond (sm (List.length (bl (mk (Prod.fst (prR lnR (dEs (eEs (PR.l (parP (bl s1))))) []))))))
             (cond (ltI 8000 (↑(ByteArray.size (mk (Prod.fst (prR lnR (dEs (eEs (PR.l (parP (bl s1))))) [])))) : Int))
              (some [(.bool (true))])
              (cond (PR.x (parP (bl (mk (Prod.fst (prR lnR (dEs (eEs (PR.l (parP (bl s1))))) []))))) == 0)
               (cond (isEs (eEs (PR.l (parP (bl (mk (Prod.fst (prR lnR (dEs (eEs (PR.l (parP (bl s1))))) []))))))) && (isEs (eEs (PR.l (parP (bl s1)))) && (sm (List.length (eEs (PR.l (parP (bl s1))))) && List.all (dEs (eEs (PR.l (parP (bl s1))))) smE)))
                (some [(.bool (decide (dEs (eEs (PR.l (parP (bl (mk (Prod.fst (prR lnR (dEs (eEs (PR.l (parP (bl s1))))) []))))))) = dEs (eEs (PR.l (parP (bl s1)))))))])
                none)
               (some [(.bool (false))])))
             none))
           none))
         none))
       (cond (sm (List.length (bl s1)))
        (cond (PR.x (parP (bl s1)) != 0)
         (some [(.bool ((↑(List.length (eEs (PR.l (parP (bl s1))))) : Int) == 0))])
         (cond (isEs (eEs (PR.l (parP (bl s1)))) && (Nat.ble (List.length (eEs (PR.l (parP (bl s1))))) 10000 && List.all (dEs (eEs (PR.l (parP (bl s1))))) gLn))
          (cond (Prod.snd (prR lnR (dEs (eEs (PR.l (parP (bl s1))))) []) != 0)
           (some [(.bool (false))])
           (cond (sm (List.length (bl (mk (Prod.fst (prR lnR (dEs (eEs (PR.l (parP (bl s1))))) []))))))
            (cond (ltI 8000 (↑(ByteArray.size (mk (Prod.fst (prR lnR (dEs (eEs (PR.l (parP (bl s1))))) [])))) : Int))
             (some [(.bool (true))])
             (cond (PR.x (parP (bl (mk (Prod.fst (prR lnR (dEs (eEs (PR.l (parP (bl s1))))) []))))) == 0)
              (cond (isEs (eEs (PR.l (parP (bl (mk (Prod.fst (prR lnR (dEs (eEs (PR.l (parP (bl s1))))) []))))))) && (isEs (eEs (PR.l (parP (bl s1)))) && (sm (List.length (eEs (PR.l (parP (bl s1))))) && List.all (dEs (eEs (PR.l (parP (bl s1))))) smE)))
               (some [(.bool (decide (dEs (eEs (PR.l (parP (bl (mk (Prod.fst (prR lnR (dEs (eEs (PR.l (parP (bl s1))))) []))))))) = dEs (eEs (PR.l (parP (bl s1)))))))])
               none)
              (some [(.bool (false))])))
            none))
          none))
        none))
      none)))
   none) := by kernel_rfl

/-! codesearch/codesearchlaw54.ScriptReplies -/
theorem lReplies_e (G : Req → R) (kind0 : Int) (r1_0 : Int) (r1_1 : Int) (r1_2_0 : List (List L)) (r1_2_1 : List (List L)) (r1_2_2 : Bool) (r1_3 : Int) : runB (cfg [k_alive, k_preply, k_rreply]) G (.enter 4 [(.lf (.int IntKind.i64 (kind0))), (.agg [(.int IntKind.i64 (r1_0)), (.int IntKind.i64 (r1_1)), (.lst 54 r1_2_0), (.lst 56 r1_2_1), (.bool (r1_2_2)), (.int IntKind.i64 (r1_3))])] []) =
  (cond (ltI 20 (↑(List.length r1_2_0) : Int))
   (some [(.bool (true))])
   (cond (ltI 10 (↑(List.length r1_2_1) : Int))
    (some [(.bool (true))])
    (both
     (cond (gRp r1_0 r1_1 r1_2_0 r1_2_1 r1_3)
      (cond (gRp r1_0 r1_1 r1_2_0 r1_2_1 r1_3)
       (some [(.bool (bl (mk (rpS kind0 r1_0 r1_1 r1_2_0 r1_2_1 r1_2_2 r1_3)) == bl (mk (rpS kind0 r1_0 r1_1 r1_2_0 r1_2_1 r1_2_2 r1_3))))])
       none)
      none)
     (dupN 1
      (dupN 1
       (cond (gRp r1_0 r1_1 r1_2_0 r1_2_1 r1_3)
        (cond (gRp r1_0 r1_1 r1_2_0 r1_2_1 r1_3)
         (some [(.bool (bl (mk (rpS kind0 r1_0 r1_1 r1_2_0 r1_2_1 r1_2_2 r1_3)) == bl (mk (rpS kind0 r1_0 r1_1 r1_2_0 r1_2_1 r1_2_2 r1_3))))])
         none)
        none)))))) := by kernel_rfl

end Go.Ab
namespace Go.Ab
open Go.Proofs
def evD : Ev := ev0 0
theorem sameList_loop (xs ys : List Ev) (hl : xs.length = ys.length) (hs : xs.length ≤ 1000000) (hsm : ∀ e ∈ ys, smE e = true) : ∀ m i : Nat, i + m = xs.length → Runs (cfg [k_rsame]) (sameList_q4 (eEs xs) (eEs ys) (i : Nat)) [.bool (decide (xs.drop i = ys.drop i))]
  | 0, i, h => by
    refine Runs.by (sameList_p4 · _ _ _) ?_
    rw [drop_end (l := xs) (by omega), drop_end (l := ys) (by omega), eEs_len]
    simp (disch := omega) only [ev_lt_f, cond_false]
    exact .ret' (by simp)
  | m + 1, i, h => by
    have ih := sameList_loop xs ys hl hs hsm m (i + 1) (by omega)
    refine Runs.by (sameList_p4 · _ _ _) ?_
    rw [drop_at evD (show i < xs.length by omega), drop_at evD (show i < ys.length by omega), cons_d]
    have ha : atL (eEs xs) (i : Int) = encE (xs.getD i evD) := atL_map _ xs i evD (by omega)
    have hb : atL (eEs ys) (i : Int) = encE (ys.getD i evD) := atL_map _ ys i evD (by omega)
    have hm : ys.getD i evD ∈ ys := by
      have : i < ys.length := by omega
      simp [List.getD, List.getElem?_eq_getElem this]
    have hg := hsm _ hm
    simp (disch := omega) only [ha, hb, eEs_len, ev_lt_t, ev_le_t, Bool.and_self, cond_true, w64]
    generalize xs.getD i evD = a at *
    generalize ys.getD i evD = b at *
    have g : (isLs (cX 10 (encE a)) (cX 11 (encE a)) (cX 12 (encE a)) (cX 13 (encE a)) && (isLs (cX 10 (encE b)) (cX 11 (encE b)) (cX 12 (encE b)) (cX 13 (encE b)) && smE (dE1 (encE b)))) = true := by
      rw [dE1_e, hg, Bool.and_true, Bool.and_eq_true]
      exact ⟨isLs_e a.users a.groups a.rules a.writes, isLs_e b.users b.groups b.rules b.writes⟩
    have e : decide (dE1 (encE a) = dE1 (encE b)) = decide (a = b) := by rw [dE1_e, dE1_e]
    show RunsF _ (fun G => cond (isLs (cX 10 (encE a)) (cX 11 (encE a)) (cX 12 (encE a)) (cX 13 (encE a)) && (isLs (cX 10 (encE b)) (cX 11 (encE b)) (cX 12 (encE b)) (cX 13 (encE b)) && smE (dE1 (encE b)))) (cond (!decide (dE1 (encE a) = dE1 (encE b))) _ _) none) _
    rw [g, e]
    by_cases he : a = b
    · rw [decide_eq_true he]
      exact .go ih
    · rw [decide_eq_false he]
      exact .ret
theorem sameList_holds : Holds k_SameList := con_run (xs := [k_rsame]) (hold1 rsame_holds hold0) fun aa hp r h => by
  split at h
  case h_2 => cases h
  rename_i xs ys
  obtain ⟨g, rfl⟩ := xo h
  simp only [Bool.and_eq_true] at g
  obtain ⟨g1, g2, g3, g4⟩ := g
  obtain ⟨xs, rfl⟩ := isEs_of g1
  obtain ⟨ys, rfl⟩ := isEs_of g2
  rw [eEs_len] at g3
  rw [dEs_e] at g4
  have g3 := sm_of g3
  refine Runs.by (sameList_e · _ _) ?_
  rw [dEs_e, dEs_e, eEs_len, eEs_len]
  by_cases hl : xs.length = ys.length
  · have := sameList_loop xs ys hl (by omega) (fun e he => List.all_eq_true.1 g4 e he) xs.length 0 (Nat.zero_add _)
    rw [List.drop_zero, List.drop_zero] at this
    rw [ev_ne_f (by omega)]
    exact .go this
  · rw [ev_ne_t (by omega), decide_eq_false (fun e => hl (by rw [e]))]
    exact .ret
end Go.Ab
namespace Go.Ab
open Go.Proofs
/-! codesearch/script.Print -/
noncomputable def pprint_q3 (x9 : List (List L)) (x10 : Int) (x11 : Int) (h1 : List (List L)) : Req := .point 14 [] (todoAt Tryz.prog 14 3) ⟨[an, an, an, an, (.lf (.ptr 0 0)), an, an, an, an, (.lf (.lst 42 x9)), (.lf (.int IntKind.i64 x10)), (.lf (.int IntKind.i64 x11)), an, an, an, an, an, an, an, an, an, an, an, an, an, an, an, an], [(.box [.oth, (.sl 5)] [(.slf 0 0), (.row 1)]), (.row 5 h1 true)]⟩
theorem pprint_e (G : Req → R) (l0 : List (List L)) : runB (cfg [k_pline, k_ws, k_bs]) G (.enter 14 [(.lf (.lst 42 l0))] []) =
  (G (pprint_q3 l0 ((↑(List.length l0) : Int)) 0 [])) := by kernel_rfl
theorem pprint_p3 (G : Req → R) (x9 : List (List L)) (x10 : Int) (x11 : Int) (h1 : List (List L)) : runB (cfg [k_pline, k_ws, k_bs]) G (pprint_q3 x9 x10 x11 h1) =
  (cond (ltI x11 x10)
   (cond (leI 0 x11 && ltI x11 (↑(List.length x9) : Int))
    (cond (isLs (cX 10 (atL x9 x11)) (cX 11 (atL x9 x11)) (cX 12 (atL x9 x11)) (cX 13 (atL x9 x11)) && gLn (Ev.mk (cI 0 (atL x9 x11)) (bl (cT 1 (atL x9 x11))) (bl (cT 2 (atL x9 x11))) (bl (cT 3 (atL x9 x11))) (cI 4 (atL x9 x11)) (cI 5 (atL x9 x11)) (cI 6 (atL x9 x11)) (cI 7 (atL x9 x11)) (bl (cT 8 (atL x9 x11))) (bl (cT 9 (atL x9 x11))) (dIs (cX 10 (atL x9 x11))) (dSs (cX 11 (atL x9 x11))) (dRs (cX 12 (atL x9 x11))) (dWs (cX 13 (atL x9 x11)))))
     (cond (Prod.snd (lnR (Ev.mk (cI 0 (atL x9 x11)) (bl (cT 1 (atL x9 x11))) (bl (cT 2 (atL x9 x11))) (bl (cT 3 (atL x9 x11))) (cI 4 (atL x9 x11)) (cI 5 (atL x9 x11)) (cI 6 (atL x9 x11)) (cI 7 (atL x9 x11)) (bl (cT 8 (atL x9 x11))) (bl (cT 9 (atL x9 x11))) (dIs (cX 10 (atL x9 x11))) (dSs (cX 11 (atL x9 x11))) (dRs (cX 12 (atL x9 x11))) (dWs (cX 13 (atL x9 x11))))) != 0)
      (some [(.str (mk [])), (.int IntKind.i64 (Prod.snd (lnR (Ev.mk (cI 0 (atL x9 x11)) (bl (cT 1 (atL x9 x11))) (bl (cT 2 (atL x9 x11))) (bl (cT 3 (atL x9 x11))) (cI 4 (atL x9 x11)) (cI 5 (atL x9 x11)) (cI 6 (atL x9 x11)) (cI 7 (atL x9 x11)) (bl (cT 8 (atL x9 x11))) (bl (cT 9 (atL x9 x11))) (dIs (cX 10 (atL x9 x11))) (dSs (cX 11 (atL x9 x11))) (dRs (cX 12 (atL x9 x11))) (dWs (cX 13 (atL x9 x11)))))))])
      (cond (leI (↑(ByteArray.size (mk (Prod.fst (lnR (Ev.mk (cI 0 (atL x9 x11)) (bl (cT 1 (atL x9 x11))) (bl (cT 2 (atL x9 x11))) (bl (cT 3 (atL x9 x11))) (cI 4 (atL x9 x11)) (cI 5 (atL x9 x11)) (cI 6 (atL x9 x11)) (cI 7 (atL x9 x11)) (bl (cT 8 (atL x9 x11))) (bl (cT 9 (atL x9 x11))) (dIs (cX 10 (atL x9 x11))) (dSs (cX 11 (atL x9 x11))) (dRs (cX 12 (atL x9 x11))) (dWs (cX 13 (atL x9 x11))))))) + 1) : Int) (IntKind.max IntKind.i64))
       (cond (isBy h1 && Nat.ble (List.length h1 + ByteArray.size (mk (Prod.fst (lnR (Ev.mk (cI 0 (atL x9 x11)) (bl (cT 1 (atL x9 x11))) (bl (cT 2 (atL x9 x11))) (bl (cT 3 (atL x9 x11))) (cI 4 (atL x9 x11)) (cI 5 (atL x9 x11)) (cI 6 (atL x9 x11)) (cI 7 (atL x9 x11)) (bl (cT 8 (atL x9 x11))) (bl (cT 9 (atL x9 x11))) (dIs (cX 10 (atL x9 x11))) (dSs (cX 11 (atL x9 x11))) (dRs (cX 12 (atL x9 x11))) (dWs (cX 13 (atL x9 x11)))))) ++ mk [10])) 100000000000)
        (G (pprint_q3 x9 x10 (wrapI IntKind.i64 (x11 + 1)) (h1 ++ bytesOf (mk (Prod.fst (lnR (Ev.mk (cI 0 (atL x9 x11)) (bl (cT 1 (atL x9 x11))) (bl (cT 2 (atL x9 x11))) (bl (cT 3 (atL x9 x11))) (cI 4 (atL x9 x11)) (cI 5 (atL x9 x11)) (cI 6 (atL x9 x11)) (cI 7 (atL x9 x11)) (bl (cT 8 (atL x9 x11))) (bl (cT 9 (atL x9 x11))) (dIs (cX 10 (atL x9 x11))) (dSs (cX 11 (atL x9 x11))) (dRs (cX 12 (atL x9 x11))) (dWs (cX 13 (atL x9 x11)))))) ++ mk [10]))))
        none)
       none))
     none)
    none)
   (cond (isBy h1 && Nat.ble (List.length h1) 100000000000)
    (some [(.str (mk (dB h1))), (.int IntKind.i64 (0))])
    none)) := by kernel_rfl

/-! codesearch/codesearchref54.Print -/
noncomputable def rprint_q3 (l0 : List (List L)) (out4 : ByteArray) (i5 : Int) : Req := .point 15 [] (todoAt Tryz.prog 15 3) ⟨[(.lf (.lst 42 l0)), an, an, an, (.lf (.str out4)), (.lf (.int IntKind.i64 i5)), an, an, an, an, an, an, an, an, an, an, an, an, an, an, an, an, an, an, an, an, an, an, an, an], []⟩
theorem rprint_e (G : Req → R) (l0 : List (List L)) : runB (cfg [k_rline]) G (.enter 15 [(.lf (.lst 42 l0))] []) =
  (G (rprint_q3 l0 (mk []) 0)) := by kernel_rfl
theorem rprint_p3 (G : Req → R) (l0 : List (List L)) (out4 : ByteArray) (i5 : Int) : runB (cfg [k_rline]) G (rprint_q3 l0 out4 i5) =
  (cond (ltI i5 (↑(List.length l0) : Int))
   (cond (leI 0 i5 && ltI i5 (↑(List.length l0) : Int))
    (cond (isLs (cX 10 (atL l0 i5)) (cX 11 (atL l0 i5)) (cX 12 (atL l0 i5)) (cX 13 (atL l0 i5)) && gRl (Ev.mk (cI 0 (atL l0 i5)) (bl (cT 1 (atL l0 i5))) (bl (cT 2 (atL l0 i5))) (bl (cT 3 (atL l0 i5))) (cI 4 (atL l0 i5)) (cI 5 (atL l0 i5)) (cI 6 (atL l0 i5)) (cI 7 (atL l0 i5)) (bl (cT 8 (atL l0 i5))) (bl (cT 9 (atL l0 i5))) (dIs (cX 10 (atL l0 i5))) (dSs (cX 11 (atL l0 i5))) (dRs (cX 12 (atL l0 i5))) (dWs (cX 13 (atL l0 i5)))))
     (cond (Prod.snd (rlnR (Ev.mk (cI 0 (atL l0 i5)) (bl (cT 1 (atL l0 i5))) (bl (cT 2 (atL l0 i5))) (bl (cT 3 (atL l0 i5))) (cI 4 (atL l0 i5)) (cI 5 (atL l0 i5)) (cI 6 (atL l0 i5)) (cI 7 (atL l0 i5)) (bl (cT 8 (atL l0 i5))) (bl (cT 9 (atL l0 i5))) (dIs (cX 10 (atL l0 i5))) (dSs (cX 11 (atL l0 i5))) (dRs (cX 12 (atL l0 i5))) (dWs (cX 13 (atL l0 i5))))) != 0)
      (some [(.str (mk [])), (.int IntKind.i64 (Prod.snd (rlnR (Ev.mk (cI 0 (atL l0 i5)) (bl (cT 1 (atL l0 i5))) (bl (cT 2 (atL l0 i5))) (bl (cT 3 (atL l0 i5))) (cI 4 (atL l0 i5)) (cI 5 (atL l0 i5)) (cI 6 (atL l0 i5)) (cI 7 (atL l0 i5)) (bl (cT 8 (atL l0 i5))) (bl (cT 9 (atL l0 i5))) (dIs (cX 10 (atL l0 i5))) (dSs (cX 11 (atL l0 i5))) (dRs (cX 12 (atL l0 i5))) (dWs (cX 13 (atL l0 i5)))))))])
      (cond (leI (↑(ByteArray.size (mk (Prod.fst (rlnR (Ev.mk (cI 0 (atL l0 i5)) (bl (cT 1 (atL l0 i5))) (bl (cT 2 (atL l0 i5))) (bl (cT 3 (atL l0 i5))) (cI 4 (atL l0 i5)) (cI 5 (atL l0 i5)) (cI 6 (atL l0 i5)) (cI 7 (atL l0 i5)) (bl (cT 8 (atL l0 i5))) (bl (cT 9 (atL l0 i5))) (dIs (cX 10 (atL l0 i5))) (dSs (cX 11 (atL l0 i5))) (dRs (cX 12 (atL l0 i5))) (dWs (cX 13 (atL l0 i5))))))) + 1) : Int) (IntKind.max IntKind.i64))
       (cond (leI (↑(ByteArray.size out4 + ByteArray.size (mk (Prod.fst (rlnR (Ev.mk (cI 0 (atL l0 i5)) (bl (cT 1 (atL l0 i5))) (bl (cT 2 (atL l0 i5))) (bl (cT 3 (atL l0 i5))) (cI 4 (atL l0 i5)) (cI 5 (atL l0 i5)) (cI 6 (atL l0 i5)) (cI 7 (atL l0 i5)) (bl (cT 8 (atL l0 i5))) (bl (cT 9 (atL l0 i5))) (dIs (cX 10 (atL l0 i5))) (dSs (cX 11 (atL l0 i5))) (dRs (cX 12 (atL l0 i5))) (dWs (cX 13 (atL l0 i5)))))) ++ mk [10])) : Int) (IntKind.max IntKind.i64))
        (G (rprint_q3 l0 (out4 ++ (mk (Prod.fst (rlnR (Ev.mk (cI 0 (atL l0 i5)) (bl (cT 1 (atL l0 i5))) (bl (cT 2 (atL l0 i5))) (bl (cT 3 (atL l0 i5))) (cI 4 (atL l0 i5)) (cI 5 (atL l0 i5)) (cI 6 (atL l0 i5)) (cI 7 (atL l0 i5)) (bl (cT 8 (atL l0 i5))) (bl (cT 9 (atL l0 i5))) (dIs (cX 10 (atL l0 i5))) (dSs (cX 11 (atL l0 i5))) (dRs (cX 12 (atL l0 i5))) (dWs (cX 13 (atL l0 i5)))))) ++ mk [10])) (wrapI IntKind.i64 (i5 + 1))))
        none)
       none))
     none)
    none)
   (some [(.str (out4)), (.int IntKind.i64 (0))])) := by kernel_rfl

/-! codesearch/script.Parse -/
noncomputable def pparse_q5 (x14 : List (List L)) (x15 : Int) (x16 : Int) (h0 : List (List L)) : Req := .point 8 [] (todoAt Tryz.prog 8 5) ⟨[an, an, an, an, an, (.lf (.row 0)), an, an, an, an, an, an, an, an, (.lf (.lst 9 x14)), (.lf (.int IntKind.i64 x15)), (.lf (.int IntKind.i64 x16)), an, an, an, an, an, an, an, an, an, an, an, an, an, an, an, an, an, an, an, an, an, an, an, an, an, an, an, an, an, an, an, an, an, an], [(.row 42 h0 true)]⟩
theorem pparse_e (G : Req → R) (s0 : ByteArray) : runB (cfg [k_Split, k_pevent]) G (.enter 8 [(.lf (.str (s0)))] []) =
  (cond (ltI 8000 (↑(ByteArray.size s0) : Int))
   (some [(.lst 42 []), (.int IntKind.i64 (0)), (.int IntKind.i64 (4))])
   (cond (Nat.ble (ByteArray.size s0) 1000000000 && true)
    (G (pparse_q5 (eSs (spl (List.getD (bl (mk [10])) 0 0) (bl s0))) ((↑(List.length (eSs (spl (List.getD (bl (mk [10])) 0 0) (bl s0)))) : Int)) 0 []))
    none)) := by kernel_rfl
theorem pparse_p5 (G : Req → R) (x14 : List (List L)) (x15 : Int) (x16 : Int) (h0 : List (List L)) : runB (cfg [k_Split, k_pevent]) G (pparse_q5 x14 x15 x16 h0) =
  (cond (ltI x16 x15)
   (cond (leI 0 x16 && ltI x16 (↑(List.length x14) : Int))
    (cond (bl (cT 0 (atL x14 x16)) == bl (mk []))
     (G (pparse_q5 x14 x15 (wrapI IntKind.i64 (x16 + 1)) h0))
     (cond (ltI 0 (↑(ByteArray.size (cT 0 (atL x14 x16))) : Int))
      (cond (byI (cT 0 (atL x14 x16)) 0 == 35)
       (G (pparse_q5 x14 x15 (wrapI IntKind.i64 (x16 + 1)) h0))
       (cond (sm (ByteArray.size (cT 0 (atL x14 x16))))
        (cond (Prod.snd (evL pOps (bl (cT 0 (atL x14 x16)))) == 0)
         (cond (leI 400 (↑(List.length h0) : Int))
          (some [(.lst 42 []), (.int IntKind.i64 (wrapI IntKind.i64 (x16 + 1))), (.int IntKind.i64 (4))])
          (cond (Prod.snd (evL pOps (bl (cT 0 (atL x14 x16)))) != 0)
           (some [(.lst 42 []), (.int IntKind.i64 (wrapI IntKind.i64 (x16 + 1))), (.int IntKind.i64 (Prod.snd (evL pOps (bl (cT 0 (atL x14 x16))))))])
           (cond (roomN (List.length h0 + 1) 216)
            (G (pparse_q5 x14 x15 (wrapI IntKind.i64 (x16 + 1)) (h0 ++ [[L.int IntKind.i64 (Ev.kind (Prod.fst (evL pOps (bl (cT 0 (atL x14 x16)))))), L.str (mk (Ev.repo (Prod.fst (evL pOps (bl (cT 0 (atL x14 x16))))))), L.str (mk (Ev.name (Prod.fst (evL pOps (bl (cT 0 (atL x14 x16))))))), L.str (mk (Ev.other (Prod.fst (evL pOps (bl (cT 0 (atL x14 x16))))))), L.int IntKind.i64 (Ev.who (Prod.fst (evL pOps (bl (cT 0 (atL x14 x16)))))), L.int IntKind.i64 (Ev.n (Prod.fst (evL pOps (bl (cT 0 (atL x14 x16)))))), L.int IntKind.i64 (Ev.m (Prod.fst (evL pOps (bl (cT 0 (atL x14 x16)))))), L.int IntKind.i64 (Ev.k (Prod.fst (evL pOps (bl (cT 0 (atL x14 x16)))))), L.str (mk (Ev.text (Prod.fst (evL pOps (bl (cT 0 (atL x14 x16))))))), L.str (mk (Ev.gname (Prod.fst (evL pOps (bl (cT 0 (atL x14 x16))))))), L.lst 3 (eIs (Ev.users (Prod.fst (evL pOps (bl (cT 0 (atL x14 x16))))))), L.lst 9 (eSs (Ev.groups (Prod.fst (evL pOps (bl (cT 0 (atL x14 x16))))))), L.lst 65 (eRs (Ev.rules (Prod.fst (evL pOps (bl (cT 0 (atL x14 x16))))))), L.lst 51 (eWs (Ev.writes (Prod.fst (evL pOps (bl (cT 0 (atL x14 x16)))))))]])))
            none)))
         (cond (Prod.snd (evL pOps (bl (cT 0 (atL x14 x16)))) != 0)
          (some [(.lst 42 []), (.int IntKind.i64 (wrapI IntKind.i64 (x16 + 1))), (.int IntKind.i64 (Prod.snd (evL pOps (bl (cT 0 (atL x14 x16))))))])
          (cond (roomN (List.length h0 + 1) 216)
           (G (pparse_q5 x14 x15 (wrapI IntKind.i64 (x16 + 1)) (h0 ++ [[L.int IntKind.i64 (Ev.kind (Prod.fst (evL pOps (bl (cT 0 (atL x14 x16)))))), L.str (mk (Ev.repo (Prod.fst (evL pOps (bl (cT 0 (atL x14 x16))))))), L.str (mk (Ev.name (Prod.fst (evL pOps (bl (cT 0 (atL x14 x16))))))), L.str (mk (Ev.other (Prod.fst (evL pOps (bl (cT 0 (atL x14 x16))))))), L.int IntKind.i64 (Ev.who (Prod.fst (evL pOps (bl (cT 0 (atL x14 x16)))))), L.int IntKind.i64 (Ev.n (Prod.fst (evL pOps (bl (cT 0 (atL x14 x16)))))), L.int IntKind.i64 (Ev.m (Prod.fst (evL pOps (bl (cT 0 (atL x14 x16)))))), L.int IntKind.i64 (Ev.k (Prod.fst (evL pOps (bl (cT 0 (atL x14 x16)))))), L.str (mk (Ev.text (Prod.fst (evL pOps (bl (cT 0 (atL x14 x16))))))), L.str (mk (Ev.gname (Prod.fst (evL pOps (bl (cT 0 (atL x14 x16))))))), L.lst 3 (eIs (Ev.users (Prod.fst (evL pOps (bl (cT 0 (atL x14 x16))))))), L.lst 9 (eSs (Ev.groups (Prod.fst (evL pOps (bl (cT 0 (atL x14 x16))))))), L.lst 65 (eRs (Ev.rules (Prod.fst (evL pOps (bl (cT 0 (atL x14 x16))))))), L.lst 51 (eWs (Ev.writes (Prod.fst (evL pOps (bl (cT 0 (atL x14 x16)))))))]])))
           none)))
        none))
      none))
    none)
   (some [(.lst 42 h0), (.int IntKind.i64 (0)), (.int IntKind.i64 (0))])) := by kernel_rfl

/-! codesearch/codesearchref54.Parse -/
noncomputable def rparse_q6 (l5 : List (List L)) (i7 : Int) (h0 : List (List L)) : Req := .point 9 [] (todoAt Tryz.prog 9 6) ⟨[an, an, an, an, an, (.lf (.lst 9 l5)), (.lf (.row 0)), (.lf (.int IntKind.i64 i7)), an, an, an, an, an, an, an, an, an, an, an, an, an, an, an, an, an, an, an, an, an, an, an, an, an, an, an, an, an, an, an, an, an, an, an, an, an, an, an, an, an, an, an, an, an, an, an, an, an, an, an], [(.row 42 h0 true)]⟩
theorem rparse_e (G : Req → R) (s0 : ByteArray) : runB (cfg [k_rlines, k_read]) G (.enter 9 [(.lf (.str (s0)))] []) =
  (cond (ltI 8000 (↑(ByteArray.size s0) : Int))
   (some [(.lst 42 []), (.int IntKind.i64 (0)), (.int IntKind.i64 (4))])
   (cond (sm (List.length (bl s0)))
    (G (rparse_q6 (eSs (rlines (bl s0))) 0 []))
    none)) := by kernel_rfl
theorem rparse_p6 (G : Req → R) (l5 : List (List L)) (i7 : Int) (h0 : List (List L)) : runB (cfg [k_rlines, k_read]) G (rparse_q6 l5 i7 h0) =
  (cond (ltI i7 (↑(List.length l5) : Int))
   (cond (leI 0 i7 && ltI i7 (↑(List.length l5) : Int))
    (cond (bl (cT 0 (atL l5 i7)) == bl (mk []))
     (G (rparse_q6 l5 (wrapI IntKind.i64 (i7 + 1)) h0))
     (cond (leI 0 i7 && ltI i7 (↑(List.length l5) : Int))
      (cond (ltI 0 (↑(ByteArray.size (cT 0 (atL l5 i7))) : Int))
       (cond (byI (cT 0 (atL l5 i7)) 0 == 35)
        (G (rparse_q6 l5 (wrapI IntKind.i64 (i7 + 1)) h0))
        (cond (leI 0 i7 && ltI i7 (↑(List.length l5) : Int))
         (cond (sm (ByteArray.size (cT 0 (atL l5 i7))))
          (cond (Prod.snd (evL aOps (bl (cT 0 (atL l5 i7)))) == 0)
           (cond (leI 400 (↑(List.length h0) : Int))
            (some [(.lst 42 []), (.int IntKind.i64 (wrapI IntKind.i64 (i7 + 1))), (.int IntKind.i64 (4))])
            (cond (Prod.snd (evL aOps (bl (cT 0 (atL l5 i7)))) != 0)
             (some [(.lst 42 []), (.int IntKind.i64 (wrapI IntKind.i64 (i7 + 1))), (.int IntKind.i64 (Prod.snd (evL aOps (bl (cT 0 (atL l5 i7))))))])
             (cond (roomN (List.length h0 + 1) 216)
              (G (rparse_q6 l5 (wrapI IntKind.i64 (i7 + 1)) (h0 ++ [[L.int IntKind.i64 (Ev.kind (Prod.fst (evL aOps (bl (cT 0 (atL l5 i7)))))), L.str (mk (Ev.repo (Prod.fst (evL aOps (bl (cT 0 (atL l5 i7))))))), L.str (mk (Ev.name (Prod.fst (evL aOps (bl (cT 0 (atL l5 i7))))))), L.str (mk (Ev.other (Prod.fst (evL aOps (bl (cT 0 (atL l5 i7))))))), L.int IntKind.i64 (Ev.who (Prod.fst (evL aOps (bl (cT 0 (atL l5 i7)))))), L.int IntKind.i64 (Ev.n (Prod.fst (evL aOps (bl (cT 0 (atL l5 i7)))))), L.int IntKind.i64 (Ev.m (Prod.fst (evL aOps (bl (cT 0 (atL l5 i7)))))), L.int IntKind.i64 (Ev.k (Prod.fst (evL aOps (bl (cT 0 (atL l5 i7)))))), L.str (mk (Ev.text (Prod.fst (evL aOps (bl (cT 0 (atL l5 i7))))))), L.str (mk (Ev.gname (Prod.fst (evL aOps (bl (cT 0 (atL l5 i7))))))), L.lst 3 (eIs (Ev.users (Prod.fst (evL aOps (bl (cT 0 (atL l5 i7))))))), L.lst 9 (eSs (Ev.groups (Prod.fst (evL aOps (bl (cT 0 (atL l5 i7))))))), L.lst 65 (eRs (Ev.rules (Prod.fst (evL aOps (bl (cT 0 (atL l5 i7))))))), L.lst 51 (eWs (Ev.writes (Prod.fst (evL aOps (bl (cT 0 (atL l5 i7)))))))]])))
              none)))
           (cond (Prod.snd (evL aOps (bl (cT 0 (atL l5 i7)))) != 0)
            (some [(.lst 42 []), (.int IntKind.i64 (wrapI IntKind.i64 (i7 + 1))), (.int IntKind.i64 (Prod.snd (evL aOps (bl (cT 0 (atL l5 i7))))))])
            (cond (roomN (List.length h0 + 1) 216)
             (G (rparse_q6 l5 (wrapI IntKind.i64 (i7 + 1)) (h0 ++ [[L.int IntKind.i64 (Ev.kind (Prod.fst (evL aOps (bl (cT 0 (atL l5 i7)))))), L.str (mk (Ev.repo (Prod.fst (evL aOps (bl (cT 0 (atL l5 i7))))))), L.str (mk (Ev.name (Prod.fst (evL aOps (bl (cT 0 (atL l5 i7))))))), L.str (mk (Ev.other (Prod.fst (evL aOps (bl (cT 0 (atL l5 i7))))))), L.int IntKind.i64 (Ev.who (Prod.fst (evL aOps (bl (cT 0 (atL l5 i7)))))), L.int IntKind.i64 (Ev.n (Prod.fst (evL aOps (bl (cT 0 (atL l5 i7)))))), L.int IntKind.i64 (Ev.m (Prod.fst (evL aOps (bl (cT 0 (atL l5 i7)))))), L.int IntKind.i64 (Ev.k (Prod.fst (evL aOps (bl (cT 0 (atL l5 i7)))))), L.str (mk (Ev.text (Prod.fst (evL aOps (bl (cT 0 (atL l5 i7))))))), L.str (mk (Ev.gname (Prod.fst (evL aOps (bl (cT 0 (atL l5 i7))))))), L.lst 3 (eIs (Ev.users (Prod.fst (evL aOps (bl (cT 0 (atL l5 i7))))))), L.lst 9 (eSs (Ev.groups (Prod.fst (evL aOps (bl (cT 0 (atL l5 i7))))))), L.lst 65 (eRs (Ev.rules (Prod.fst (evL aOps (bl (cT 0 (atL l5 i7))))))), L.lst 51 (eWs (Ev.writes (Prod.fst (evL aOps (bl (cT 0 (atL l5 i7)))))))]])))
             none)))
          none)
         none))
       none)
      none))
    none)
   (some [(.lst 42 h0), (.int IntKind.i64 (0)), (.int IntKind.i64 (0))])) := by kernel_rfl

/-! codesearch/codesearchref01.Starts -/
noncomputable def starts_q3 (s0 : ByteArray) (i4 : Int) (h0 : List (List L)) : Req := .point 43 [] (todoAt Tryz.prog 43 3) ⟨[(.lf (.str s0)), an, an, (.lf (.row 0)), (.lf (.int IntKind.i64 i4)), an, an, an, an, an, an, an, an, an, an, an, an, an, an, an, an, an, an, an, an], [(.row 3 h0 true)]⟩
theorem starts_e (G : Req → R) (s0 : ByteArray) : runB (cfg []) G (.enter 43 [(.lf (.str (s0)))] []) =
  (G (starts_q3 s0 0 [])) := by kernel_rfl
theorem starts_p3 (G : Req → R) (s0 : ByteArray) (i4 : Int) (h0 : List (List L)) : runB (cfg []) G (starts_q3 s0 i4 h0) =
  (cond (ltI i4 (↑(ByteArray.size s0) : Int))
   (cond (i4 == 0)
    (cond (roomN (List.length h0 + 1) 8)
     (G (starts_q3 s0 (wrapI IntKind.i64 (i4 + 1)) (h0 ++ [[L.int IntKind.i64 i4]])))
     none)
    (cond (leI 0 (wrapI IntKind.i64 (i4 - 1)) && ltI (wrapI IntKind.i64 (i4 - 1)) (↑(ByteArray.size s0) : Int))
     (cond (byI s0 (wrapI IntKind.i64 (i4 - 1)) == 10)
      (cond (roomN (List.length h0 + 1) 8)
       (G (starts_q3 s0 (wrapI IntKind.i64 (i4 + 1)) (h0 ++ [[L.int IntKind.i64 i4]])))
       none)
      (G (starts_q3 s0 (wrapI IntKind.i64 (i4 + 1)) h0)))
     none))
   (some [(.lst 3 h0)])) := by kernel_rfl

/-! codesearch/codesearchref01.stop -/
noncomputable def stop_q2 (s0 : ByteArray) (i5 : Int) : Req := .point 44 [] (todoAt Tryz.prog 44 2) ⟨[(.lf (.str s0)), an, an, an, an, (.lf (.int IntKind.i64 i5)), an, an, an, an, an, an, an, an, an, an, an, an, an, an, an], []⟩
theorem stop_e (G : Req → R) (s0 : ByteArray) (from1 : Int) : runB (cfg []) G (.enter 44 [(.lf (.str (s0))), (.lf (.int IntKind.i64 (from1)))] []) =
  (G (stop_q2 s0 from1)) := by kernel_rfl
theorem stop_p2 (G : Req → R) (s0 : ByteArray) (i5 : Int) : runB (cfg []) G (stop_q2 s0 i5) =
  (cond (ltI i5 (↑(ByteArray.size s0) : Int))
   (cond (leI 0 i5 && ltI i5 (↑(ByteArray.size s0) : Int))
    (cond (byI s0 i5 == 10)
     (some [(.int IntKind.i64 (wrapI IntKind.i64 (i5 + 1)))])
     (G (stop_q2 s0 (wrapI IntKind.i64 (i5 + 1)))))
    none)
   (some [(.int IntKind.i64 ((↑(ByteArray.size s0) : Int)))])) := by kernel_rfl

/-! codesearch/codesearchref01.Lines -/
noncomputable def rlines_q4 (s0 : ByteArray) (at4 : List (List L)) (i5 : Int) (h0 : List (List L)) : Req := .point 20 [] (todoAt Tryz.prog 20 4) ⟨[(.lf (.str s0)), an, an, (.lf (.row 0)), (.lf (.lst 3 at4)), (.lf (.int IntKind.i64 i5)), an, an, an, an, an, an, an, an, an, an, an, an, an, an, an, an, an, an, an, an, an, an, an, an, an, an, an, an, an, an, an, an, an], [(.row 9 h0 true)]⟩
theorem rlines_e (G : Req → R) (s0 : ByteArray) : runB (cfg [k_starts, k_stop]) G (.enter 20 [(.lf (.str (s0)))] []) =
  (cond (sm (List.length (bl s0)))
   (G (rlines_q4 s0 (eNs (stF 0 (bl s0) true)) 0 []))
   none) := by kernel_rfl
theorem rlines_p4 (G : Req → R) (s0 : ByteArray) (at4 : List (List L)) (i5 : Int) (h0 : List (List L)) : runB (cfg [k_starts, k_stop]) G (rlines_q4 s0 at4 i5 h0) =
  (cond (ltI i5 (↑(List.length at4) : Int))
   (cond (leI 0 i5 && ltI i5 (↑(List.length at4) : Int))
    (cond (sm (ByteArray.size s0) && (leI 0 (cI 0 (atL at4 i5)) && leI (cI 0 (atL at4 i5)) (↑(ByteArray.size s0) : Int)))
     (cond (leI 0 (wrapI IntKind.i64 ((↑(stopF (bl s0) (Int.toNat (cI 0 (atL at4 i5)))) : Int) - 1)) && ltI (wrapI IntKind.i64 ((↑(stopF (bl s0) (Int.toNat (cI 0 (atL at4 i5)))) : Int) - 1)) (↑(ByteArray.size s0) : Int))
      (cond (byI s0 (wrapI IntKind.i64 ((↑(stopF (bl s0) (Int.toNat (cI 0 (atL at4 i5)))) : Int) - 1)) == 10)
       (cond (leI 0 i5 && ltI i5 (↑(List.length at4) : Int))
        (cond (leI 0 (wrapI IntKind.i64 ((↑(stopF (bl s0) (Int.toNat (cI 0 (atL at4 i5)))) : Int) - 1)) && leI (wrapI IntKind.i64 ((↑(stopF (bl s0) (Int.toNat (cI 0 (atL at4 i5)))) : Int) - 1)) (↑(ByteArray.size s0) : Int) && (leI 0 (cI 0 (atL at4 i5)) && leI (cI 0 (atL at4 i5)) (↑(Int.toNat (wrapI IntKind.i64 ((↑(stopF (bl s0) (Int.toNat (cI 0 (atL at4 i5)))) : Int) - 1))) : Int)))
         (cond (roomN (List.length h0 + 1) 16)
          (G (rlines_q4 s0 at4 (wrapI IntKind.i64 (i5 + 1)) (h0 ++ [[L.str (ByteArray.extract s0 (Int.toNat (cI 0 (atL at4 i5))) (Int.toNat (wrapI IntKind.i64 ((↑(stopF (bl s0) (Int.toNat (cI 0 (atL at4 i5)))) : Int) - 1))))]])))
          none)
         none)
        none)
       (cond (leI 0 i5 && ltI i5 (↑(List.length at4) : Int))
        (cond (leI 0 (↑(stopF (bl s0) (Int.toNat (cI 0 (atL at4 i5)))) : Int) && leI (↑(stopF (bl s0) (Int.toNat (cI 0 (atL at4 i5)))) : Int) (↑(ByteArray.size s0) : Int) && (leI 0 (cI 0 (atL at4 i5)) && leI (cI 0 (atL at4 i5)) (↑(Int.toNat (↑(stopF (bl s0) (Int.toNat (cI 0 (atL at4 i5)))) : Int)) : Int)))
         (cond (roomN (List.length h0 + 1) 16)
          (G (rlines_q4 s0 at4 (wrapI IntKind.i64 (i5 + 1)) (h0 ++ [[L.str (ByteArray.extract s0 (Int.toNat (cI 0 (atL at4 i5))) (Int.toNat (↑(stopF (bl s0) (Int.toNat (cI 0 (atL at4 i5)))) : Int)))]])))
          none)
         none)
        none))
      none)
     none)
    none)
   (some [(.lst 9 h0)])) := by kernel_rfl

/-! codesearch/codesearchref54.Line -/
theorem rline_e (G : Req → R) (e0_0 : Int) (e0_1 : ByteArray) (e0_2 : ByteArray) (e0_3 : ByteArray) (e0_4 : Int) (e0_5 : Int) (e0_6 : Int) (e0_7 : Int) (e0_8 : ByteArray) (e0_9_0 : ByteArray) (e0_9_1 : List (List L)) (e0_9_2 : List (List L)) (e0_10 : List (List L)) (e0_11 : List (List L)) : runB (cfg [k_name, k_tail, k_read, k_rsame]) G (.enter 17 [(.agg [(.int IntKind.i64 (e0_0)), (.str (e0_1)), (.str (e0_2)), (.str (e0_3)), (.int IntKind.i64 (e0_4)), (.int IntKind.i64 (e0_5)), (.int IntKind.i64 (e0_6)), (.int IntKind.i64 (e0_7)), (.str (e0_8)), (.str (e0_9_0)), (.lst 3 e0_9_1), (.lst 9 e0_9_2), (.lst 65 e0_10), (.lst 51 e0_11)])] []) =
  (cond (i64B e0_0)
   (cond (bl (mk (nmOf e0_0)) == bl (mk []))
    (some [(.str (mk [])), (.int IntKind.i64 (1))])
    (dupN 1
     (cond (i64B e0_0)
      (cond (isLs e0_9_1 e0_9_2 e0_10 e0_11 && (i64B (Ev.kind (Ev.mk e0_0 (bl e0_1) (bl e0_2) (bl e0_3) e0_4 e0_5 e0_6 e0_7 (bl e0_8) (bl e0_9_0) (dIs e0_9_1) (dSs e0_9_2) (dRs e0_10) (dWs e0_11))) && okI (Ev.mk e0_0 (bl e0_1) (bl e0_2) (bl e0_3) e0_4 e0_5 e0_6 e0_7 (bl e0_8) (bl e0_9_0) (dIs e0_9_1) (dSs e0_9_2) (dRs e0_10) (dWs e0_11)) && sm (List.length (tw (tlw (Ev.mk e0_0 (bl e0_1) (bl e0_2) (bl e0_3) e0_4 e0_5 e0_6 e0_7 (bl e0_8) (bl e0_9_0) (dIs e0_9_1) (dSs e0_9_2) (dRs e0_10) (dWs e0_11)))))))
       (cond (leI (↑(ByteArray.size (mk (nmOf e0_0)) + ByteArray.size (mk (tw (tlw (Ev.mk e0_0 (bl e0_1) (bl e0_2) (bl e0_3) e0_4 e0_5 e0_6 e0_7 (bl e0_8) (bl e0_9_0) (dIs e0_9_1) (dSs e0_9_2) (dRs e0_10) (dWs e0_11)))))) : Int) (IntKind.max IntKind.i64))
        (cond (sm (ByteArray.size (mk (nmOf e0_0) ++ mk (tw (tlw (Ev.mk e0_0 (bl e0_1) (bl e0_2) (bl e0_3) e0_4 e0_5 e0_6 e0_7 (bl e0_8) (bl e0_9_0) (dIs e0_9_1) (dSs e0_9_2) (dRs e0_10) (dWs e0_11)))))))
         (cond (Prod.snd (evL aOps (bl (mk (nmOf e0_0) ++ mk (tw (tlw (Ev.mk e0_0 (bl e0_1) (bl e0_2) (bl e0_3) e0_4 e0_5 e0_6 e0_7 (bl e0_8) (bl e0_9_0) (dIs e0_9_1) (dSs e0_9_2) (dRs e0_10) (dWs e0_11))))))) != 0)
          (some [(.str (mk [])), (.int IntKind.i64 (1))])
          (cond (isLs e0_9_1 e0_9_2 e0_10 e0_11 && (isLs (eIs (Ev.users (Prod.fst (evL aOps (bl (mk (nmOf e0_0) ++ mk (tw (tlw (Ev.mk e0_0 (bl e0_1) (bl e0_2) (bl e0_3) e0_4 e0_5 e0_6 e0_7 (bl e0_8) (bl e0_9_0) (dIs e0_9_1) (dSs e0_9_2) (dRs e0_10) (dWs e0_11)))))))))) (eSs (Ev.groups (Prod.fst (evL aOps (bl (mk (nmOf e0_0) ++ mk (tw (tlw (Ev.mk e0_0 (bl e0_1) (bl e0_2) (bl e0_3) e0_4 e0_5 e0_6 e0_7 (bl e0_8) (bl e0_9_0) (dIs e0_9_1) (dSs e0_9_2) (dRs e0_10) (dWs e0_11)))))))))) (eRs (Ev.rules (Prod.fst (evL aOps (bl (mk (nmOf e0_0) ++ mk (tw (tlw (Ev.mk e0_0 (bl e0_1) (bl e0_2) (bl e0_3) e0_4 e0_5 e0_6 e0_7 (bl e0_8) (bl e0_9_0) (dIs e0_9_1) (dSs e0_9_2) (dRs e0_10) (dWs e0_11)))))))))) (eWs (Ev.writes (Prod.fst (evL aOps (bl (mk (nmOf e0_0) ++ mk (tw (tlw (Ev.mk e0_0 (bl e0_1) (bl e0_2) (bl e0_3) e0_4 e0_5 e0_6 e0_7 (bl e0_8) (bl e0_9_0) (dIs e0_9_1) (dSs e0_9_2) (dRs e0_10) (dWs e0_11)))))))))) && smE (Ev.mk (Ev.kind (Prod.fst (evL aOps (bl (mk (nmOf e0_0) ++ mk (tw (tlw (Ev.mk e0_0 (bl e0_1) (bl e0_2) (bl e0_3) e0_4 e0_5 e0_6 e0_7 (bl e0_8) (bl e0_9_0) (dIs e0_9_1) (dSs e0_9_2) (dRs e0_10) (dWs e0_11))))))))) (bl (mk (Ev.repo (Prod.fst (evL aOps (bl (mk (nmOf e0_0) ++ mk (tw (tlw (Ev.mk e0_0 (bl e0_1) (bl e0_2) (bl e0_3) e0_4 e0_5 e0_6 e0_7 (bl e0_8) (bl e0_9_0) (dIs e0_9_1) (dSs e0_9_2) (dRs e0_10) (dWs e0_11))))))))))) (bl (mk (Ev.name (Prod.fst (evL aOps (bl (mk (nmOf e0_0) ++ mk (tw (tlw (Ev.mk e0_0 (bl e0_1) (bl e0_2) (bl e0_3) e0_4 e0_5 e0_6 e0_7 (bl e0_8) (bl e0_9_0) (dIs e0_9_1) (dSs e0_9_2) (dRs e0_10) (dWs e0_11))))))))))) (bl (mk (Ev.other (Prod.fst (evL aOps (bl (mk (nmOf e0_0) ++ mk (tw (tlw (Ev.mk e0_0 (bl e0_1) (bl e0_2) (bl e0_3) e0_4 e0_5 e0_6 e0_7 (bl e0_8) (bl e0_9_0) (dIs e0_9_1) (dSs e0_9_2) (dRs e0_10) (dWs e0_11))))))))))) (Ev.who (Prod.fst (evL aOps (bl (mk (nmOf e0_0) ++ mk (tw (tlw (Ev.mk e0_0 (bl e0_1) (bl e0_2) (bl e0_3) e0_4 e0_5 e0_6 e0_7 (bl e0_8) (bl e0_9_0) (dIs e0_9_1) (dSs e0_9_2) (dRs e0_10) (dWs e0_11))))))))) (Ev.n (Prod.fst (evL aOps (bl (mk (nmOf e0_0) ++ mk (tw (tlw (Ev.mk e0_0 (bl e0_1) (bl e0_2) (bl e0_3) e0_4 e0_5 e0_6 e0_7 (bl e0_8) (bl e0_9_0) (dIs e0_9_1) (dSs e0_9_2) (dRs e0_10) (dWs e0_11))))))))) (Ev.m (Prod.fst (evL aOps (bl (mk (nmOf e0_0) ++ mk (tw (tlw (Ev.mk e0_0 (bl e0_1) (bl e0_2) (bl e0_3) e0_4 e0_5 e0_6 e0_7 (bl e0_8) (bl e0_9_0) (dIs e0_9_1) (dSs e0_9_2) (dRs e0_10) (dWs e0_11))))))))) (Ev.k (Prod.fst (evL aOps (bl (mk (nmOf e0_0) ++ mk (tw (tlw (Ev.mk e0_0 (bl e0_1) (bl e0_2) (bl e0_3) e0_4 e0_5 e0_6 e0_7 (bl e0_8) (bl e0_9_0) (dIs e0_9_1) (dSs e0_9_2) (dRs e0_10) (dWs e0_11))))))))) (bl (mk (Ev.text (Prod.fst (evL aOps (bl (mk (nmOf e0_0) ++ mk (tw (tlw (Ev.mk e0_0 (bl e0_1) (bl e0_2) (bl e0_3) e0_4 e0_5 e0_6 e0_7 (bl e0_8) (bl e0_9_0) (dIs e0_9_1) (dSs e0_9_2) (dRs e0_10) (dWs e0_11))))))))))) (bl (mk (Ev.gname (Prod.fst (evL aOps (bl (mk (nmOf e0_0) ++ mk (tw (tlw (Ev.mk e0_0 (bl e0_1) (bl e0_2) (bl e0_3) e0_4 e0_5 e0_6 e0_7 (bl e0_8) (bl e0_9_0) (dIs e0_9_1) (dSs e0_9_2) (dRs e0_10) (dWs e0_11))))))))))) (dIs (eIs (Ev.users (Prod.fst (evL aOps (bl (mk (nmOf e0_0) ++ mk (tw (tlw (Ev.mk e0_0 (bl e0_1) (bl e0_2) (bl e0_3) e0_4 e0_5 e0_6 e0_7 (bl e0_8) (bl e0_9_0) (dIs e0_9_1) (dSs e0_9_2) (dRs e0_10) (dWs e0_11))))))))))) (dSs (eSs (Ev.groups (Prod.fst (evL aOps (bl (mk (nmOf e0_0) ++ mk (tw (tlw (Ev.mk e0_0 (bl e0_1) (bl e0_2) (bl e0_3) e0_4 e0_5 e0_6 e0_7 (bl e0_8) (bl e0_9_0) (dIs e0_9_1) (dSs e0_9_2) (dRs e0_10) (dWs e0_11))))))))))) (dRs (eRs (Ev.rules (Prod.fst (evL aOps (bl (mk (nmOf e0_0) ++ mk (tw (tlw (Ev.mk e0_0 (bl e0_1) (bl e0_2) (bl e0_3) e0_4 e0_5 e0_6 e0_7 (bl e0_8) (bl e0_9_0) (dIs e0_9_1) (dSs e0_9_2) (dRs e0_10) (dWs e0_11))))))))))) (dWs (eWs (Ev.writes (Prod.fst (evL aOps (bl (mk (nmOf e0_0) ++ mk (tw (tlw (Ev.mk e0_0 (bl e0_1) (bl e0_2) (bl e0_3) e0_4 e0_5 e0_6 e0_7 (bl e0_8) (bl e0_9_0) (dIs e0_9_1) (dSs e0_9_2) (dRs e0_10) (dWs e0_11))))))))))))))
           (cond (!decide (Ev.mk e0_0 (bl e0_1) (bl e0_2) (bl e0_3) e0_4 e0_5 e0_6 e0_7 (bl e0_8) (bl e0_9_0) (dIs e0_9_1) (dSs e0_9_2) (dRs e0_10) (dWs e0_11) = Ev.mk (Ev.kind (Prod.fst (evL aOps (bl (mk (nmOf e0_0) ++ mk (tw (tlw (Ev.mk e0_0 (bl e0_1) (bl e0_2) (bl e0_3) e0_4 e0_5 e0_6 e0_7 (bl e0_8) (bl e0_9_0) (dIs e0_9_1) (dSs e0_9_2) (dRs e0_10) (dWs e0_11))))))))) (bl (mk (Ev.repo (Prod.fst (evL aOps (bl (mk (nmOf e0_0) ++ mk (tw (tlw (Ev.mk e0_0 (bl e0_1) (bl e0_2) (bl e0_3) e0_4 e0_5 e0_6 e0_7 (bl e0_8) (bl e0_9_0) (dIs e0_9_1) (dSs e0_9_2) (dRs e0_10) (dWs e0_11))))))))))) (bl (mk (Ev.name (Prod.fst (evL aOps (bl (mk (nmOf e0_0) ++ mk (tw (tlw (Ev.mk e0_0 (bl e0_1) (bl e0_2) (bl e0_3) e0_4 e0_5 e0_6 e0_7 (bl e0_8) (bl e0_9_0) (dIs e0_9_1) (dSs e0_9_2) (dRs e0_10) (dWs e0_11))))))))))) (bl (mk (Ev.other (Prod.fst (evL aOps (bl (mk (nmOf e0_0) ++ mk (tw (tlw (Ev.mk e0_0 (bl e0_1) (bl e0_2) (bl e0_3) e0_4 e0_5 e0_6 e0_7 (bl e0_8) (bl e0_9_0) (dIs e0_9_1) (dSs e0_9_2) (dRs e0_10) (dWs e0_11))))))))))) (Ev.who (Prod.fst (evL aOps (bl (mk (nmOf e0_0) ++ mk (tw (tlw (Ev.mk e0_0 (bl e0_1) (bl e0_2) (bl e0_3) e0_4 e0_5 e0_6 e0_7 (bl e0_8) (bl e0_9_0) (dIs e0_9_1) (dSs e0_9_2) (dRs e0_10) (dWs e0_11))))))))) (Ev.n (Prod.fst (evL aOps (bl (mk (nmOf e0_0) ++ mk (tw (tlw (Ev.mk e0_0 (bl e0_1) (bl e0_2) (bl e0_3) e0_4 e0_5 e0_6 e0_7 (bl e0_8) (bl e0_9_0) (dIs e0_9_1) (dSs e0_9_2) (dRs e0_10) (dWs e0_11))))))))) (Ev.m (Prod.fst (evL aOps (bl (mk (nmOf e0_0) ++ mk (tw (tlw (Ev.mk e0_0 (bl e0_1) (bl e0_2) (bl e0_3) e0_4 e0_5 e0_6 e0_7 (bl e0_8) (bl e0_9_0) (dIs e0_9_1) (dSs e0_9_2) (dRs e0_10) (dWs e0_11))))))))) (Ev.k (Prod.fst (evL aOps (bl (mk (nmOf e0_0) ++ mk (tw (tlw (Ev.mk e0_0 (bl e0_1) (bl e0_2) (bl e0_3) e0_4 e0_5 e0_6 e0_7 (bl e0_8) (bl e0_9_0) (dIs e0_9_1) (dSs e0_9_2) (dRs e0_10) (dWs e0_11))))))))) (bl (mk (Ev.text (Prod.fst (evL aOps (bl (mk (nmOf e0_0) ++ mk (tw (tlw (Ev.mk e0_0 (bl e0_1) (bl e0_2) (bl e0_3) e0_4 e0_5 e0_6 e0_7 (bl e0_8) (bl e0_9_0) (dIs e0_9_1) (dSs e0_9_2) (dRs e0_10) (dWs e0_11))))))))))) (bl (mk (Ev.gname (Prod.fst (evL aOps (bl (mk (nmOf e0_0) ++ mk (tw (tlw (Ev.mk e0_0 (bl e0_1) (bl e0_2) (bl e0_3) e0_4 e0_5 e0_6 e0_7 (bl e0_8) (bl e0_9_0) (dIs e0_9_1) (dSs e0_9_2) (dRs e0_10) (dWs e0_11))))))))))) (dIs (eIs (Ev.users (Prod.fst (evL aOps (bl (mk (nmOf e0_0) ++ mk (tw (tlw (Ev.mk e0_0 (bl e0_1) (bl e0_2) (bl e0_3) e0_4 e0_5 e0_6 e0_7 (bl e0_8) (bl e0_9_0) (dIs e0_9_1) (dSs e0_9_2) (dRs e0_10) (dWs e0_11))))))))))) (dSs (eSs (Ev.groups (Prod.fst (evL aOps (bl (mk (nmOf e0_0) ++ mk (tw (tlw (Ev.mk e0_0 (bl e0_1) (bl e0_2) (bl e0_3) e0_4 e0_5 e0_6 e0_7 (bl e0_8) (bl e0_9_0) (dIs e0_9_1) (dSs e0_9_2) (dRs e0_10) (dWs e0_11))))))))))) (dRs (eRs (Ev.rules (Prod.fst (evL aOps (bl (mk (nmOf e0_0) ++ mk (tw (tlw (Ev.mk e0_0 (bl e0_1) (bl e0_2) (bl e0_3) e0_4 e0_5 e0_6 e0_7 (bl e0_8) (bl e0_9_0) (dIs e0_9_1) (dSs e0_9_2) (dRs e0_10) (dWs e0_11))))))))))) (dWs (eWs (Ev.writes (Prod.fst (evL aOps (bl (mk (nmOf e0_0) ++ mk (tw (tlw (Ev.mk e0_0 (bl e0_1) (bl e0_2) (bl e0_3) e0_4 e0_5 e0_6 e0_7 (bl e0_8) (bl e0_9_0) (dIs e0_9_1) (dSs e0_9_2) (dRs e0_10) (dWs e0_11)))))))))))))
            (some [(.str (mk [])), (.int IntKind.i64 (1))])
            (cond (ltI 8000 (↑(ByteArray.size (mk (nmOf e0_0) ++ mk (tw (tlw (Ev.mk e0_0 (bl e0_1) (bl e0_2) (bl e0_3) e0_4 e0_5 e0_6 e0_7 (bl e0_8) (bl e0_9_0) (dIs e0_9_1) (dSs e0_9_2) (dRs e0_10) (dWs e0_11)))))) : Int))
             (some [(.str (mk [])), (.int IntKind.i64 (1))])
             (some [(.str (mk (nmOf e0_0) ++ mk (tw (tlw (Ev.mk e0_0 (bl e0_1) (bl e0_2) (bl e0_3) e0_4 e0_5 e0_6 e0_7 (bl e0_8) (bl e0_9_0) (dIs e0_9_1) (dSs e0_9_2) (dRs e0_10) (dWs e0_11)))))), (.int IntKind.i64 (0))])))
           none))
         none)
        none)
       none)
      none)))
   none) := by kernel_rfl

end Go.Ab
namespace Go.Ab
open Go.Proofs

/-- Nothing good can follow. -/
def Dm (x : Rs) : Prop := x.2 = true ∨ (x.1 ≠ [] ∧ isBlk x.1 = false)
/-- The same and good so far, or both doomed. -/
def Sm (x y : Rs) : Prop := (x = y ∧ x.2 = false ∧ (x.1 = [] ∨ isBlk x.1 = true)) ∨ (Dm x ∧ Dm y)
theorem Sm.good {x y : Rs} (h : Sm x y) (hd : ¬ Dm x) : x = y := h.elim (fun h => h.1) fun h => absurd h.1 hd
theorem good_sm {x : Rs} : Sm x x := by
  obtain ⟨s, b⟩ := x
  cases b
  · by_cases h : s = []
    · exact .inl ⟨rfl, rfl, .inl h⟩
    · cases hb : isBlk s
      · exact .inr ⟨.inr ⟨h, hb⟩, .inr ⟨h, hb⟩⟩
      · exact .inl ⟨rfl, rfl, .inr hb⟩
  · exact .inr ⟨.inl rfl, .inl rfl⟩
theorem dm_nx {x : Rs} (h : Dm x) : nxO x.1 x.2 = false := by
  unfold nxO
  rcases h with h | h
  · rw [h]; rfl
  · rw [h.2, Bool.and_false]
theorem dm_an {x : Rs} (h : Dm x) : anB x.1 x.2 = true := by
  unfold anB
  rcases h with h | h
  · rw [h]; rfl
  · rw [h.2, Bool.not_false, Bool.or_true]
theorem dm_sW {x : Rs} (h : Dm x) : (sW x).2 = true := by show pwB x.1 x.2 = true; unfold pwB; rw [dm_nx h]; rfl
theorem dm_sN {x : Rs} (h : Dm x) : (sN x).2 = true := by show pnB x.1 x.2 = true; unfold pnB; rw [dm_nx h]; rfl
theorem dm_sT {x : Rs} (h : Dm x) : (sT x).2 = true := by show ptB x.1 x.2 = true; unfold ptB ptO; rw [dm_nx h]; rfl
theorem dm_sAW {x : Rs} (h : Dm x) : (sAW x).2 = true := by show awB x.1 x.2 = true; unfold awB; rw [dm_an h]; rfl
theorem dm_sAN {x : Rs} (h : Dm x) : (sAN x).2 = true := by show awNB x.1 x.2 = true; unfold awNB; rw [dm_an h]; rfl
theorem dm_sAT {x : Rs} (h : Dm x) : (sAT x).2 = true := by show awTB x.1 x.2 = true; unfold awTB; rw [dm_an h]; rfl
theorem dW {x : Rs} (h : Dm x) : Dm (sW x) := .inl (dm_sW h)
theorem dN {x : Rs} (h : Dm x) : Dm (sN x) := .inl (dm_sN h)
theorem dT {x : Rs} (h : Dm x) : Dm (sT x) := .inl (dm_sT h)
theorem dAW {x : Rs} (h : Dm x) : Dm (sAW x) := .inl (dm_sAW h)
theorem dAN {x : Rs} (h : Dm x) : Dm (sAN x) := .inl (dm_sAN h)
theorem dAT {x : Rs} (h : Dm x) : Dm (sAT x) := .inl (dm_sAT h)

/-! ### words -/
theorem vis_not32 {c : UInt8} (h : isVis c = true) : (c.toNat == 32) = false := by
  rw [vis_b, decide_eq_true_eq] at h
  rw [beq_eq_false_iff_ne]; omega
theorem vis_up : ∀ t : W, (upB t).all isVis = true → vis t = upB t
  | [], _ => rfl
  | c :: t, h => by
    unfold upB vis at *
    rw [List.takeWhile_cons] at h ⊢
    rw [List.takeWhile_cons]
    by_cases hc : (c.toNat == 32) = true
    · have hv : isVis c = false := by
        cases hv : isVis c
        · rfl
        · rw [vis_not32 hv] at hc; cases hc
      rw [hv, hc]; rfl
    · have hc : (c.toNat == 32) = false := by simpa using hc
      rw [hc] at h ⊢
      simp only [Bool.not_false, if_true, List.all_cons, Bool.and_eq_true] at h ⊢
      rw [h.1, if_pos rfl]
      have := vis_up t h.2
      unfold vis upB at this
      rw [this]
theorem vis_bad : ∀ t : W, (upB t).all isVis = false → t.drop (vis t).length ≠ [] ∧ isBlk (t.drop (vis t).length) = false
  | [], h => by cases h
  | c :: t, h => by
    unfold upB at h
    rw [List.takeWhile_cons] at h
    by_cases hc : (c.toNat == 32) = true
    · rw [hc] at h
      cases h
    · have hc : (c.toNat == 32) = false := by simpa using hc
      rw [hc] at h
      simp only [Bool.not_false, if_true, List.all_cons] at h
      unfold vis
      rw [List.takeWhile_cons]
      cases hv : isVis c
      · exact ⟨by simp, hc⟩
      · rw [hv, Bool.true_and] at h
        have := vis_bad t h
        unfold vis at this
        simpa using this
theorem up_rest (t : W) : t.drop (upB t).length = [] ∨ isBlk (t.drop (upB t).length) = true := by
  rcases Nat.lt_or_ge (upB t).length t.length with h | h
  · right
    rw [drop_at 0 h]
    have := upB_end t h
    show (_ == 32) = true
    rw [this]; rfl
  · left
    exact drop_end h
theorem blk_of {x : Rs} (h : isBlk x.1 = true) (hb : x.2 = false) : nxO x.1 x.2 = true ∧ anB x.1 x.2 = false ∧ anS x.1 = x.1.drop 1 := by
  unfold nxO anB anS
  rw [h, hb]
  exact ⟨rfl, rfl, rfl⟩
theorem nil_p : sW ([], false) = ([], true) ∧ sN ([], false) = ([], true) ∧ sT ([], false) = ([], true) := ⟨rfl, rfl, rfl⟩
theorem nil_a : (sAW ([], false)).2 = true ∧ (sAN ([], false)).2 = true ∧ (sAT ([], false)).2 = true := ⟨rfl, rfl, rfl⟩
/-- A word behind a blank. -/
theorem stepW_blk (s : W) (h : isBlk s = true) : Sm (sW (s, false)) (sAW (s, false)) ∧ (¬ Dm (sW (s, false)) → vW (s, false) = vAW (s, false)) := by
  obtain ⟨h1, h2, h3⟩ := blk_of (x := (s, false)) h rfl
  have h1 : nxO s false = true := h1
  have h2 : anB s false = false := h2
  have h3 : anS s = s.drop 1 := h3
  have ep : sW (s, false) = ((s.drop 1).drop (upB (s.drop 1)).length, !wdOk (upB (s.drop 1))) := by
    show (rwS s false, pwB s false) = _
    unfold rwS pwB rwW
    rw [h1]; rfl
  have ev : vW (s, false) = upB (s.drop 1) := by
    show rwW s false = _
    unfold rwW
    rw [h1]; rfl
  have ea : sAW (s, false) = ((s.drop 1).drop (vis (s.drop 1)).length, !awOk (vis (s.drop 1))) := by
    show (anR s, awB s false) = _
    unfold anR awB anW
    rw [h2, h3]; rfl
  have eva : vAW (s, false) = vis (s.drop 1) := by
    show anW s = _
    unfold anW
    rw [h3]
  generalize s.drop 1 = t at *
  rw [ep, ev, ea, eva]
  cases hv : (upB t).all isVis
  · have hb : wdOk (upB t) = false := by unfold wdOk; rw [hv, Bool.and_false, Bool.and_false]
    rw [hb]
    exact ⟨.inr ⟨.inl rfl, .inr (vis_bad t hv)⟩, fun h => absurd (.inl rfl) h⟩
  · have e := vis_up t hv
    have eo : awOk (upB t) = wdOk (upB t) := by unfold awOk wdOk; rw [hv, Bool.and_true]
    rw [e, eo]
    refine ⟨?_, fun _ => rfl⟩
    cases hw : wdOk (upB t)
    · exact .inr ⟨.inl rfl, .inl rfl⟩
    · exact .inl ⟨rfl, rfl, up_rest t⟩
theorem stepW {x y : Rs} (h : Sm x y) : Sm (sW x) (sAW y) ∧ (¬ Dm (sW x) → vW x = vAW y) := by
  rcases h with ⟨rfl, hb, hs⟩ | ⟨h1, h2⟩
  · obtain ⟨s, b⟩ := x
    have hb : b = false := hb
    subst hb
    rcases hs with hs | hs
    · have hs : s = [] := hs
      subst hs
      exact ⟨.inr ⟨.inl rfl, .inl rfl⟩, fun h => absurd (.inl rfl) h⟩
    · exact stepW_blk s hs
  · exact ⟨.inr ⟨dW h1, dAW h2⟩, fun h => absurd (dW h1) h⟩

/-! ### numbers -/
theorem num_vis (w : W) (h : numOk w = true) : w.all isVis = true := by
  unfold numOk at h
  simp only [Bool.and_eq_true] at h
  have hd := h.2.2.2
  have hall : (digs w).all isVis = true := List.all_eq_true.2 fun c hc => by
    have := List.all_eq_true.1 hd c hc
    rw [isDg_eq, decide_eq_true_eq] at this
    rw [vis_b, decide_eq_true_eq]; omega
  unfold digs at hall
  cases hm : isMin w
  · rw [hm] at hall; exact hall
  · rw [hm] at hall
    cases w with
    | nil => cases hm
    | cons c t =>
      have hc : c.toNat = 45 := by simpa [isMin] using hm
      rw [List.all_cons, Bool.and_eq_true]
      exact ⟨by rw [vis_b, decide_eq_true_eq]; omega, hall⟩
theorem num_len (w : W) (h : numOk w = true) : 1 ≤ w.length ∧ w.length ≤ 10 := by
  unfold numOk at h
  simp only [Bool.and_eq_true] at h
  have h1 := Nat.le_of_ble_eq_true h.1
  have h2 := Nat.le_of_ble_eq_true h.2.1
  unfold digs at h1 h2
  cases hm : isMin w
  · rw [hm] at h1 h2; exact ⟨h1, Nat.le_trans h2 (by decide)⟩
  · rw [hm] at h1 h2
    simp only [cond_true, List.length_drop] at h1 h2
    omega
theorem stepN_blk (s : W) (h : isBlk s = true) : Sm (sN (s, false)) (sAN (s, false)) ∧ (¬ Dm (sN (s, false)) → vN (s, false) = vAN (s, false)) := by
  obtain ⟨h1, h2, h3⟩ := blk_of (x := (s, false)) h rfl
  have h1 : nxO s false = true := h1
  have h2 : anB s false = false := h2
  have h3 : anS s = s.drop 1 := h3
  have ep : sN (s, false) = ((s.drop 1).drop (upB (s.drop 1)).length, !numOk (upB (s.drop 1))) := by
    show (rwS s false, pnB s false) = _
    unfold rwS pnB rwW
    rw [h1]; rfl
  have ev : vN (s, false) = numR (upB (s.drop 1)) := by
    show numR (rwW s false) = _
    unfold rwW
    rw [h1]; rfl
  have ea : sAN (s, false) = ((s.drop 1).drop (vis (s.drop 1)).length, !awOk (vis (s.drop 1)) || !numOk (vis (s.drop 1))) := by
    show (anR s, awNB s false) = _
    unfold anR awNB anW
    rw [h2, h3]; rfl
  have eva : vAN (s, false) = numR (vis (s.drop 1)) := by
    show numR (anW s) = _
    unfold anW
    rw [h3]
  generalize s.drop 1 = t at *
  rw [ep, ev, ea, eva]
  cases hv : (upB t).all isVis
  · have hb : numOk (upB t) = false := by
      cases hn : numOk (upB t)
      · rfl
      · rw [num_vis _ hn] at hv; cases hv
    rw [hb]
    exact ⟨.inr ⟨.inl rfl, .inr (vis_bad t hv)⟩, fun h => absurd (.inl rfl) h⟩
  · have e := vis_up t hv
    rw [e]
    refine ⟨?_, fun _ => rfl⟩
    cases hw : numOk (upB t)
    · exact .inr ⟨.inl rfl, .inl (by rw [Bool.not_false, Bool.or_true])⟩
    · have := num_len _ hw
      have eo : awOk (upB t) = true := by
        unfold awOk
        rw [Nat.ble_eq_true_of_le this.1, Nat.ble_eq_true_of_le (show (upB t).length ≤ 60 by omega)]; rfl
      rw [eo]
      exact .inl ⟨rfl, rfl, up_rest t⟩
theorem stepNm {x y : Rs} (h : Sm x y) : Sm (sN x) (sAN y) ∧ (¬ Dm (sN x) → vN x = vAN y) := by
  rcases h with ⟨rfl, hb, hs⟩ | ⟨h1, h2⟩
  · obtain ⟨s, b⟩ := x
    have hb : b = false := hb
    subst hb
    rcases hs with hs | hs
    · have hs : s = [] := hs
      subst hs
      exact ⟨.inr ⟨.inl rfl, .inl rfl⟩, fun h => absurd (.inl rfl) h⟩
    · exact stepN_blk s hs
  · exact ⟨.inr ⟨dN h1, dAN h2⟩, fun h => absurd (dN h1) h⟩

/-! ### strings -/
theorem stepT_blk (s : W) (h : isBlk s = true) : Sm (sT (s, false)) (sAT (s, false)) ∧ (¬ Dm (sT (s, false)) → vT (s, false) = vAT (s, false)) := by
  obtain ⟨h1, h2, h3⟩ := blk_of (x := (s, false)) h rfl
  have h1 : nxO s false = true := h1
  have h2 : anB s false = false := h2
  have h3 : anS s = s.drop 1 := h3
  have ep : sT (s, false) = (tR (s.drop 1), !(tO (s.drop 1) && sh (tV (s.drop 1)))) := by
    show (ptS s false, ptB s false) = _
    unfold ptS ptB ptO ptV
    rw [h1]; rfl
  have ev : vT (s, false) = tV (s.drop 1) := by
    show ptV s false = _
    unfold ptV
    rw [h1]; rfl
  have ea : sAT (s, false) = (cond (tO (s.drop 1) && sh (tV (s.drop 1))) (tR (s.drop 1)) (s.drop 1), !(tO (s.drop 1) && sh (tV (s.drop 1)))) := by
    show (atS s, awTB s false) = _
    unfold atS awTB atO
    rw [h2, h3]; rfl
  have eva : vAT (s, false) = cond (tO (s.drop 1) && sh (tV (s.drop 1))) (tV (s.drop 1)) [] := by
    show atV s = _
    unfold atV atO
    rw [h3]
  generalize s.drop 1 = t at *
  rw [ep, ev, ea, eva]
  cases hv : (tO t && sh (tV t))
  · exact ⟨.inr ⟨.inl rfl, .inl rfl⟩, fun h => absurd (.inl rfl) h⟩
  · exact ⟨good_sm, fun _ => rfl⟩
theorem stepT {x y : Rs} (h : Sm x y) : Sm (sT x) (sAT y) ∧ (¬ Dm (sT x) → vT x = vAT y) := by
  rcases h with ⟨rfl, hb, hs⟩ | ⟨h1, h2⟩
  · obtain ⟨s, b⟩ := x
    have hb : b = false := hb
    subst hb
    rcases hs with hs | hs
    · have hs : s = [] := hs
      subst hs
      exact ⟨.inr ⟨.inl rfl, .inl rfl⟩, fun h => absurd (.inl rfl) h⟩
    · exact stepT_blk s hs
  · exact ⟨.inr ⟨dT h1, dAT h2⟩, fun h => absurd (dT h1) h⟩
end Go.Ab
