/- Arguments that read as data are told by cells: ints, bools, strings, slices and structs of these, to any depth. -/
import Derived.Test.YtnalffdkchhcoaaGreatDoorPartAb3
import Derived.ChangeArms
import Derived.Carry
namespace Go.Ab
open Go.ChangeShapes Go.WideShapes Go.RowKit

inductive Shp (P : Program) : TypeId → List L → Prop
  | int {t : TypeId} {k : IntKind} (n : Int) : P.underlying t = some (.int k) → (Lit.int k n).wf = true → Shp P t [.int k n]
  | bool {t : TypeId} (b : Bool) : P.underlying t = some .bool → Shp P t [.bool b]
  | str {t : TypeId} (s : ByteArray) : P.underlying t = some .string → s.size ≤ maxLen → Shp P t [.str s]
  | sl {t e : TypeId} {xs : List (List L)} : P.underlying t = some (.slice e) → xs.length ≤ maxLen → (∀ x ∈ xs, Shp P e x) → Shp P t [.lst e xs]
  | struct {t : TypeId} {fs : Array Field} (lss : List (List L)) : P.underlying t = some (.struct fs) → lss.length = fs.size →
      (∀ (i : Nat) f ls, fs[i]? = some f → lss[i]? = some ls → Shp P f.type ls) → Shp P t lss.flatten
def offsOk (P : Program) : Nat → List Field → Option Nat
  | o, [] => some o
  | o, f :: fs => if f.offset = o ∧ P.cellsOf f.type = (kinds P f.type).length then offsOk P (o + P.cellsOf f.type) fs else none
def rowsOk (P : Program) (ts : List TypeId) : Bool := ts.all fun t => match P.underlying t with
  | some (.int k) => decide (kinds P t = [.int k])
  | some .bool => decide (kinds P t = [.bool])
  | some .string => decide (kinds P t = [.str])
  | some (.slice e) => decide (kinds P t = [.sl e]) && (ts.contains e && decide ((kinds P e).length = P.cellsOf e))
  | some (.struct fs) => fs.toList.all (fun f => ts.contains f.type) && (decide (kinds P t = fs.toList.flatMap fun f => kinds P f.type) && decide (offsOk P 0 fs.toList = some (P.cellsOf t)))
  | _ => false
theorem cell?_lt {w : World} {a : Addr} {v : Value} (h : w.cell? a = some v) : a.block < w.heap.size := by
  unfold World.cell? at h
  split at h
  · rename_i cs t fr e
    exact (Array.getElem?_eq_some_iff.1 e).1
  · cases h
theorem flatten_ix {n : Nat} {xs : List (List L)} (hx : ∀ e ∈ xs, e.length = n) {k : Nat} {l : L} (h : xs.flatten[k]? = some l) : ∃ i j, i < xs.length ∧ j < n ∧ k = i * n + j ∧ (xs.getD i [])[j]? = some l := by
  have hk := (List.getElem?_eq_some_iff.1 h).1
  have hl : xs.flatten.length = xs.length * n := by
    clear h hk
    induction xs with
    | nil => simp
    | cons x xs ih =>
      rw [List.flatten_cons, List.length_append, ih (fun e he => hx e (List.mem_cons_of_mem _ he)), hx x List.mem_cons_self, List.length_cons, Nat.succ_mul, Nat.add_comm]
  rw [hl] at hk
  have hn : 0 < n := Nat.pos_of_ne_zero fun e => by subst e; simp at hk
  have h1 : k / n < xs.length := (Nat.div_lt_iff_lt_mul hn).2 hk
  have h2 : k % n < n := Nat.mod_lt _ hn
  have h3 : k = k / n * n + k % n := (Nat.div_add_mod' k n).symm
  refine ⟨k / n, k % n, h1, h2, h3, ?_⟩
  rw [← flatten_get hx _ _ h2 h1, ← h3]
  exact h
section
variable {P : Program} {ts : List TypeId} {w : World} {fz : Fz} {ρ : Rho} {H : Type} {enc : TypeId × Value → H} {sp : Nat → Bool} {held : Bool}
theorem fields_rep {f0 : TypeId → List Value → Prop} (hf : ∀ t cs, f0 t cs → ∃ ls, RepLs (Rep P w fz ρ) cs ls ∧ HasKs (kinds P t) ls ∧ Shp P t ls) (cs : List Value) :
    ∀ (fs : List Field) (o e : Nat), offsOk P o fs = some e → (∀ f ∈ fs, f0 f.type ((cs.drop f.offset).take (P.cellsOf f.type))) → e = cs.length →
      ∃ lss : List (List L), RepLs (Rep P w fz ρ) (cs.drop o) lss.flatten ∧ HasKs (fs.flatMap fun f => kinds P f.type) lss.flatten ∧ lss.length = fs.length ∧
        ∀ (i : Nat) f ls, fs[i]? = some f → lss[i]? = some ls → Shp P f.type ls
  | [], o, e, h, hx, he => by
    simp only [offsOk, Option.some.injEq] at h
    subst h
    rw [List.drop_eq_nil_of_le (by omega)]
    exact ⟨[], trivial, trivial, rfl, by simp⟩
  | f :: fs, o, e, h, hx, he => by
    simp only [offsOk] at h
    split at h
    case isFalse => cases h
    rename_i hc
    obtain ⟨h1, h2⟩ := hc
    obtain ⟨ls, r1, r2, r3⟩ := hf _ _ (hx f List.mem_cons_self)
    obtain ⟨lss, q1, q2, q3, q4⟩ := fields_rep hf cs fs _ e h (fun g hg => hx g (List.mem_cons_of_mem _ hg)) he
    rw [h1] at r1
    refine ⟨ls :: lss, ?_, ?_, by simp [q3], ?_⟩
    · have := r1.append q1
      rw [← List.drop_drop, List.take_append_drop] at this
      rw [List.flatten_cons]
      exact this
    · rw [List.flatMap_cons, List.flatten_cons]
      exact hasKs_app r2 q2
    · intro i g l hg hl
      cases i with
      | zero =>
        simp only [List.getElem?_cons_zero, Option.some.injEq] at hg hl
        subst hg; subst hl; exact r3
      | succ i => exact q4 i g l (by simpa using hg) (by simpa using hl)
where hasKs_app : ∀ {ks ks' : List K} {ls ls' : List L}, HasKs ks ls → HasKs ks' ls' → HasKs (ks ++ ks') (ls ++ ls')
  | [], _, [], _, _, h => h
  | _ :: _, _, _ :: _, _, h1, h2 => ⟨h1.1, hasKs_app h1.2 h2⟩

theorem trod_rep (hts : rowsOk P ts = true) (hfz : ∀ g o, g < w.heap.size → fz g o) : ∀ (n : Nat) (t : TypeId) (cs : List Value) (x : DataW H × List MemPlace), t ∈ ts → DataW.trod enc P w 0 sp held n t cs = some x →
    ∃ ls, RepLs (Rep P w fz ρ) cs ls ∧ HasKs (kinds P t) ls ∧ Shp P t ls
  | 0, _, _, _, _, h => by simp [DataW.trod] at h
  | n + 1, t, cs, x, ht, h => by
    have hk := List.all_eq_true.1 hts t ht
    split at hk
    · rename_i k hu
      obtain ⟨z, rfl, _, hz⟩ := DataW.trod_int hu h
      rw [of_decide_eq_true hk]
      exact ⟨[.int k z], ⟨.int _ _, trivial⟩, ⟨⟨z, rfl⟩, trivial⟩, .int z hu hz⟩
    · rename_i hu
      obtain ⟨z, rfl, _⟩ := DataW.trod_bool hu h
      rw [of_decide_eq_true hk]
      exact ⟨[.bool z], ⟨.bool _, trivial⟩, ⟨⟨z, rfl⟩, trivial⟩, .bool z hu⟩
    · rename_i hu
      obtain ⟨z, rfl, _, hz⟩ := DataW.trod_string hu h
      rw [of_decide_eq_true hk]
      exact ⟨[.str z], ⟨.str _, trivial⟩, ⟨⟨z, rfl⟩, trivial⟩, .str z hu hz⟩
    · rename_i e hu
      simp only [Bool.and_eq_true, decide_eq_true_eq, List.contains_iff_mem] at hk
      obtain ⟨k1, k2, k3⟩ := hk
      rw [k1]
      rcases DataW.trod_slice hu h with ⟨rfl, _⟩ | ⟨a, len, cap, elems, rest, m, hm, rfl, _, _, hlc, hcm, hlen, hel, _⟩
      · refine ⟨[.lst e []], ⟨?_, trivial⟩, ⟨⟨[], rfl⟩, trivial⟩, .sl hu (Nat.zero_le _) (by simp)⟩
        exact .lst none 0 0 e [] (fun _ => undef) ⟨0, 0, none⟩ rfl (Nat.le_refl _) (by simp) (by simp) (by simp) (by simp) (by simp)
      · obtain rfl : m = n := by omega
        have each : ∀ i, ∃ ls : List L, i < len → (∃ ci, w.cells? 0 (a.add (i * P.cellsOf e)) (P.cellsOf e) = some ci ∧ RepLs (Rep P w fz ρ) ci ls) ∧ HasKs (kinds P e) ls ∧ Shp P e ls := by
          intro i
          by_cases hi : i < len
          · have := hel i hi
            rw [List.getElem?_eq_getElem (by omega)] at this
            obtain ⟨ci, c1, c2⟩ := Option.bind_eq_some_iff.1 this
            obtain ⟨ls, l1, l2, l3⟩ := trod_rep hts hfz m e ci _ k2 c2
            exact ⟨ls, fun _ => ⟨⟨ci, c1, l1⟩, l2, l3⟩⟩
          · exact ⟨[], fun h => absurd h hi⟩
        obtain ⟨g, hg⟩ := Classical.axiomOfChoice each
        have hall : ∀ e' ∈ (List.range len).map g, ∃ i, i < len ∧ e' = g i := by
          intro e' he'
          obtain ⟨i, hi, rfl⟩ := List.mem_map.1 he'
          exact ⟨i, by simpa using hi, rfl⟩
        have hlen' : ∀ e' ∈ (List.range len).map g, e'.length = P.cellsOf e := by
          intro e' he'
          obtain ⟨i, hi, rfl⟩ := hall e' he'
          rw [(hg i hi).2.1.length, k3]
        have hget : ∀ k l, ((List.range len).map g).flatten[k]? = some l → ∃ v, w.cell? (a.add k) = some v ∧ Rep P w fz ρ v l := by
          intro k l hk
          obtain ⟨i, j, hi, hj, rfl, hl⟩ := flatten_ix hlen' hk
          have hi : i < len := by simpa using hi
          have e1 : ((List.range len).map g).getD i [] = g i := by simp [List.getD, hi]
          rw [e1] at hl
          obtain ⟨⟨ci, c1, c2⟩, _, _⟩ := hg i hi
          obtain ⟨v, v1, v2⟩ := c2.get j l hl
          have := (World.cells?_some c1).2.2 j hj
          rw [v1] at this
          refine ⟨v, ?_, v2⟩
          rw [← this]
          rw [Addr.add_add]
        refine ⟨[.lst e ((List.range len).map g)], ⟨?_, trivial⟩, ⟨⟨_, rfl⟩, trivial⟩, .sl hu ?_ ?_⟩
        · refine .lst (some a) len cap e _ (fun k => (w.cell? (a.add k)).getD undef) a (by simp) hlc ?_ (fun _ => rfl) ?_ ?_ ?_
          · intro e' he'
            obtain ⟨i, hi, rfl⟩ := hall e' he'
            exact (hg i hi).2.1
          · intro k l hk
            obtain ⟨v, v1, _⟩ := hget k l hk
            rw [v1]; rfl
          · intro k l hk
            obtain ⟨v, v1, _⟩ := hget k l hk
            exact hfz _ _ (cell?_lt v1)
          · intro k l hk
            obtain ⟨v, v1, v2⟩ := hget k l hk
            rw [v1]; exact v2
        · simp only [List.length_map, List.length_range]
          omega
        · intro e' he'
          obtain ⟨i, hi, rfl⟩ := hall e' he'
          exact (hg i hi).2.2
    · rename_i fs hu
      simp only [Bool.and_eq_true, decide_eq_true_eq] at hk
      obtain ⟨k1, k2, k3⟩ := hk
      obtain ⟨xs, m, hm, _, hl, hlen, hel⟩ := DataW.trod_struct hu h
      obtain rfl : m = n := by omega
      have k1 := List.all_eq_true.1 k1
      obtain ⟨lss, q1, q2, q3, q4⟩ := fields_rep (P := P) (w := w) (fz := fz) (ρ := ρ) (f0 := fun t cs => t ∈ ts ∧ ∃ x, DataW.trod enc P w 0 sp held m t cs = some x)
        (fun t cs ⟨h1, x, h2⟩ => trod_rep hts hfz m t cs x h1 h2) cs fs.toList 0 _ k3 (fun f hf => by
          obtain ⟨i, hi, rfl⟩ := List.getElem_of_mem hf
          refine ⟨by simpa using k1 _ hf, ?_⟩
          have hi' : i < fs.size := by simpa using hi
          have := hel i fs[i] (Array.getElem?_eq_getElem hi')
          rw [List.getElem?_eq_getElem (by omega)] at this
          exact ⟨_, by simpa using this⟩) hl.symm
      refine ⟨lss.flatten, by simpa using q1, by rw [k2]; exact q2, .struct lss hu (by simpa using q3) fun i f ls hf => q4 i f ls (by simpa using hf)⟩
    · cases hk

theorem open_row (hts : rowsOk P ts = true) (hfz : ∀ g o, g < w.heap.size → fz g o) {t : TypeId} {v : Value} {d : DataW H} {ps : List MemPlace} (ht : t ∈ ts) (h : DataW.Trod enc P w 0 sp held t v d ps) :
    ∃ ls, RepLs (Rep P w fz ρ) v.cells.toList ls ∧ HasKs (kinds P t) ls ∧ Shp P t ls := by
  obtain ⟨n, h⟩ := h
  exact trod_rep hts hfz n t _ _ ht h
end

section
variable {C : Cfg}
theorem calls_boolF (hE : ExtOk C) (hN : NoCount C.P) (hm : C.P.follows .mixedOrders = true) {k : Nat} {f : FuncId} {fn : Func} {t : TypeId} {args : List D} {b : Bool} (h : run C k (.enter f args []) = some [.bool b])
    (hf : C.P.funcs[f]? = some fn) (ht : fn.resultTypes = #[t]) (hk : kinds C.P t = [.bool]) (hag : isAggT C.P t = false) (w : World) (hT : Tabs C w fun _ => False) {vs : Array Value} (ha : RepDs (Rep C.P w (fun g _ => g < w.heap.size) fun _ => none) vs.toList args) :
    Calls C.P f vs w fun e w' => e = .returned (.bool b) ∧ Go.RowKit.Below w.heap.size w w' := by
  refine ((run_sound hE hN hm k).1 f args [] _ h w (fun g _ => g < w.heap.size) (fun _ => none) (fun _ => False) vs hT (hsim_nil _ (fun _ _ h => h)) ha).mono ?_
  rintro e w' ⟨v, fz', rfl, E⟩
  obtain ⟨fn', vals, us, gs, gs2, bg, k1, k2, k3, k4, _⟩ := E.back
  rw [hf] at k1
  cases k1
  rw [ht] at k3 k4
  simp only [List.flatMap_cons, List.flatMap_nil, hk, List.append_nil] at k4
  match vals, k3 with
  | [x], ⟨u1, u2, e1, e2, e3, e4, e5⟩ =>
    simp only [Vals] at e5
    subst e5
    rw [List.append_nil] at e1
    subst e1
    match us, k4 with
    | [u], k4 =>
      simp only [Bk, List.headD_cons] at k4
      have := rep_bool k4.2.1
      subst this
      simp only [hag, Bool.false_eq_true, if_false, List.headD_cons] at e4
      subst e4
      refine ⟨by rw [k2]; rfl, E.mv.os, E.mv.tape, E.mv.output, E.mv.size, fun k hk => E.mv.block k hk ?_⟩
      rintro (h | h)
      · exact h
      · omega
end
end Go.Ab
