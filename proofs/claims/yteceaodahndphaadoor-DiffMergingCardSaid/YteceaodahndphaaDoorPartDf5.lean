/- Arguments that are lines and hunks: how they are opened; the laid variables. -/
import Derived.Test.YteceaodahndphaaDoorPartAb4
import Derived.Test.YteceaodahndphaaDoorPartDf1
import Derived.Handed
import Derived.MakeChecks
import Derived.Lib.LaidTab
import Derived.Test.YteceaodahndphaaDoorRows
namespace Go.Ab
open Go.Proofs

theorem rowTypes : rowsOk Tryd.prog [3, 9, 22, 25, 46] = true := by kernel_rfl
theorem u46 : ∃ f0 f1 f2 : Field, Tryd.prog.underlying 46 = some (.struct #[f0, f1, f2]) ∧ f0.type = 3 ∧ f1.type = 3 ∧ f2.type = 22 := ⟨_, _, _, Tryd.underlying46, rfl, rfl, rfl⟩
theorem all_map {α : Type} (f : α → List L) : ∀ {xs : List (List L)}, (∀ e ∈ xs, ∃ x, e = f x) → ∃ l : List α, xs = l.map f
  | [], _ => ⟨[], rfl⟩
  | e :: xs, h => by
    obtain ⟨x, rfl⟩ := h e List.mem_cons_self
    obtain ⟨l, rfl⟩ := all_map f (xs := xs) fun e he => h e (List.mem_cons_of_mem _ he)
    exact ⟨x :: l, rfl⟩
theorem shp_int {P : Program} {t : TypeId} {k : IntKind} (hu : P.underlying t = some (.int k)) {ls : List L} (h : Shp P t ls) : ∃ n, ls = [.int k n] := by
  cases h with
  | int n h hz => rw [hu] at h; cases h; exact ⟨n, rfl⟩
  | bool b h => rw [hu] at h; cases h
  | str s h _ => rw [hu] at h; cases h
  | sl h _ _ => rw [hu] at h; cases h
  | struct lss h _ _ => rw [hu] at h; cases h
theorem shp_str {P : Program} {t : TypeId} (hu : P.underlying t = some .string) {ls : List L} (h : Shp P t ls) : ∃ s, ls = [.str s] := by
  cases h with
  | int n h hz => rw [hu] at h; cases h
  | bool b h => rw [hu] at h; cases h
  | str s h _ => exact ⟨s, rfl⟩
  | sl h _ _ => rw [hu] at h; cases h
  | struct lss h _ _ => rw [hu] at h; cases h
theorem shp_sl {P : Program} {t e : TypeId} (hu : P.underlying t = some (.slice e)) {ls : List L} (h : Shp P t ls) : ∃ xs, ls = [.lst e xs] ∧ ∀ x ∈ xs, Shp P e x := by
  cases h with
  | int n h _ => rw [hu] at h; cases h
  | bool b h => rw [hu] at h; cases h
  | str s h _ => rw [hu] at h; cases h
  | sl h h1 h2 => rw [hu] at h; cases h; exact ⟨_, rfl, h2⟩
  | struct lss h _ _ => rw [hu] at h; cases h
theorem shp_struct {P : Program} {t : TypeId} {fs : Array Field} (hu : P.underlying t = some (.struct fs)) {ls : List L} (h : Shp P t ls) : ∃ lss : List (List L), ls = lss.flatten ∧ lss.length = fs.size ∧ ∀ (i : Nat) f l, fs[i]? = some f → lss[i]? = some l → Shp P f.type l := by
  cases h with
  | int n h _ => rw [hu] at h; cases h
  | bool b h => rw [hu] at h; cases h
  | str s h _ => rw [hu] at h; cases h
  | sl h _ _ => rw [hu] at h; cases h
  | struct lss h h1 h2 => rw [hu] at h; cases h; exact ⟨lss, rfl, h1, h2⟩
theorem shp9 {ls : List L} (h : Shp Tryd.prog 9 ls) : ∃ w : W, ls = eS w := by
  obtain ⟨s, rfl⟩ := shp_str Tryd.underlying9 h
  exact ⟨bl s, rfl⟩
theorem shp22 {ls : List L} (h : Shp Tryd.prog 22 ls) : ∃ a : List W, ls = [.lst 9 (eSs a)] := by
  obtain ⟨xs, rfl, hx⟩ := shp_sl Tryd.underlying22 h
  obtain ⟨l, rfl⟩ := all_map eS fun e he => shp9 (hx e he)
  exact ⟨l, rfl⟩
theorem shp46 {ls : List L} (h : Shp Tryd.prog 46 ls) : ∃ g : Hk, ls = eH g := by
  obtain ⟨f0, f1, f2, hu, t0, t1, t2⟩ := u46
  obtain ⟨lss, rfl, hlen, hall⟩ := shp_struct hu h
  match lss, hlen with
  | [a, b, c], _ =>
    have ha := hall 0 f0 a rfl rfl
    have hb := hall 1 f1 b rfl rfl
    have hc := hall 2 f2 c rfl rfl
    rw [t0] at ha
    rw [t1] at hb
    rw [t2] at hc
    obtain ⟨x, rfl⟩ := shp_int Tryd.underlying3 ha
    obtain ⟨y, rfl⟩ := shp_int Tryd.underlying3 hb
    obtain ⟨l, rfl⟩ := shp22 hc
    exact ⟨⟨x, y, l⟩, rfl⟩
theorem shp25 {ls : List L} (h : Shp Tryd.prog 25 ls) : ∃ l : List Hk, ls = [.lst 46 (eHs l)] := by
  obtain ⟨xs, rfl, hx⟩ := shp_sl Tryd.underlying25 h
  obtain ⟨l, rfl⟩ := all_map eH fun e he => shp46 (hx e he)
  exact ⟨l, rfl⟩
set_option maxRecDepth 100000 in
open Go.ChangeShapes Go.WideShapes in
theorem open_S {H : Type} {enc : TypeId × Value → H} {W : World} {sp : Nat → Bool} {held : Bool} {v : Value} {d : DataW H} {ps : List MemPlace} {r : Reach} {base : Nat} (hv : Value.okWide Tryd.prog W r base 22 v) (h : DataW.Trod enc Tryd.prog W 0 sp held 22 v d ps) :
    ∃ a : List (List UInt8), RepD (Rep Tryd.prog W (fun g _ => g < W.heap.size) fun _ => none) v (.lf (.lst 9 (eSs a))) := by
  obtain ⟨a, n, c, rfl⟩ := okWide_slice Tryd.underlying22 hv
  obtain ⟨ls, h1, _, h3⟩ := open_row (fz := fun g _ => g < W.heap.size) (ρ := fun _ => none) rowTypes (fun _ _ h => h) (by simp) h
  obtain ⟨x, rfl⟩ := shp22 h3
  exact ⟨x, h1.1⟩
set_option maxRecDepth 100000 in
open Go.ChangeShapes Go.WideShapes in
theorem open_H {H : Type} {enc : TypeId × Value → H} {W : World} {sp : Nat → Bool} {held : Bool} {v : Value} {d : DataW H} {ps : List MemPlace} {r : Reach} {base : Nat} (hv : Value.okWide Tryd.prog W r base 25 v) (h : DataW.Trod enc Tryd.prog W 0 sp held 25 v d ps) :
    ∃ l : List Hk, RepD (Rep Tryd.prog W (fun g _ => g < W.heap.size) fun _ => none) v (.lf (.lst 46 (eHs l))) := by
  obtain ⟨a, n, c, rfl⟩ := okWide_slice Tryd.underlying25 hv
  obtain ⟨ls, h1, _, h3⟩ := open_row (fz := fun g _ => g < W.heap.size) (ρ := fun _ => none) rowTypes (fun _ _ h => h) (by simp) h
  obtain ⟨x, rfl⟩ := shp25 h3
  exact ⟨x, h1.1⟩

/-! ### the laid variables -/
theorem var_lt {P : Program} {w : World} {n : String} {g : Nat} {cs : Array Value} (hg : P.globalNamed n = some g) (h : w.var? P n = some cs) : g < w.heap.size := by
  unfold World.var? at h
  rw [hg] at h
  simp only [Option.bind_some] at h
  split at h
  · rename_i e; exact (Array.getElem?_eq_some_iff.1 e).1
  · cases h
set_option maxRecDepth 100000 in
theorem maxLen_var {w : World} (h : w.ShapedOpen Tryd.prog) : ∃ m, w.var? Tryd.prog "internal/bytealg.MaxLen" = some #[Value.int .i64 m] := by
  obtain ⟨cs, hh, hs, hr⟩ := h.1 1 #[.int .i64 0] 3 (of_decide_eq_true (by kernel_rfl)) (by kernel_rfl)
  obtain ⟨ts, hts, _, hall⟩ := hr (by kernel_rfl)
  rw [show Tryd.prog.cellTypes Tryd.prog.depth 3 = some [3] by kernel_rfl] at hts
  cases hts
  have h1 : cs.size = 1 := hs
  obtain ⟨u, hu', hok⟩ := hall 0 cs[0] (by simp [h1])
  have : u = 3 := by simpa using hu'.symm
  subst this
  have hcell : cs = #[cs[0]] := by
    apply Array.ext
    · simpa using h1
    · intro i hi1 hi2
      have : i = 0 := by omega
      subst this
      rfl
  unfold Cell.ok at hok
  rw [Tryd.underlying3] at hok
  have hv : w.var? Tryd.prog "internal/bytealg.MaxLen" = some cs := by
    unfold World.var?
    rw [show Tryd.prog.globalNamed "internal/bytealg.MaxLen" = some 1 by kernel_rfl]
    simp only [Option.bind_some, hh]
  rw [hv, hcell]
  cases hx : cs[0] <;> rw [hx] at hok <;> simp at hok
  case int k' n => exact ⟨n, by rw [hok.1]⟩
theorem pow10_var {w : World} {l : List (String × DataW Unit)} (hl : l = YteceaodahndphaaDoor.Rows.diffLinesRow.laid) (h : laidMetH Tryd.prog l w) : w.var? Tryd.prog "internal/strconv.uint64pow10" = some (Lib.pow10Tab.map fun z => Value.int .u64 z).toArray := by
  subst hl
  rw [MakeChecks.laidMetH_plain _ _ _ (by kernel_rfl)] at h
  obtain ⟨ps, ⟨_, _, _, _, _, _, _, _, _, _, ⟨_, _, _, _, _, _, _, _, _, _, ⟨g', t', cs, fuel, p, q, hg', ht', hvar, hd, _, _⟩, _⟩, _⟩, _⟩ := h
  obtain rfl := Option.some.inj ((show Tryd.prog.globalNamed "internal/strconv.uint64pow10" = some 0 by kernel_rfl).symm.trans hg')
  obtain rfl := Option.some.inj ((show (Tryd.prog.globals[0]?).map (·.type) = some 108 by kernel_rfl).symm.trans ht')
  have e : (YteceaodahndphaaDoor.Rows.laid_internal_strconv_uint64pow10 : DataW Unit) = Lib.tabData .u64 Lib.pow10Tab := by kernel_rfl
  rw [e] at hd
  rw [hvar, ← Lib.cells_of_tab Tryd.underlying108 Tryd.underlying97 (by kernel_rfl) (by kernel_rfl) hd]
theorem tabs_of {ks : List (Nat × Con)} {w : World} {l : List (String × DataW Unit)} (hl : l = YteceaodahndphaaDoor.Rows.diffLinesRow.laid) (hL : laidMetH Tryd.prog l w) (hS : w.ShapedOpen Tryd.prog) : Tabs (cfg ks) w fun _ => False := by
  intro t ht
  have ht : t ∈ tabsL := ht
  unfold tabsL at ht
  rcases List.mem_cons.1 ht with rfl | ht
  · have hv := pow10_var hl hL
    have hg : Tryd.prog.globalNamed "internal/strconv.uint64pow10" = some 0 := by kernel_rfl
    exact ⟨0, hg, var_lt hg hv, fun h => h, _, hv, rfl⟩
  · rw [List.mem_singleton.1 ht]
    obtain ⟨m, hv⟩ := maxLen_var hS
    have hg : Tryd.prog.globalNamed "internal/bytealg.MaxLen" = some 1 := by kernel_rfl
    exact ⟨1, hg, var_lt hg hv, fun h => h, _, hv, m, rfl⟩

/-! ### the frame of a row: its laid variables and the world's shape are both at hand -/
open Go.ChangeShapes in
theorem row_frame {H : Type} {enc : TypeId × Value → H} {a : Assume} {C : Checked} {os : Os} {f : FuncId} {fn : Func} {s : ChangeSpec} {apart fresh handsOn again : Bool} {X : World → Prop}
    (hX : ∀ (w w' : World), w.heap = w'.heap → X w → X w')
    (own : ownKnob C.prog.godebug = none) (started : os.Started) (noInit : C.prog.inits.idxOf? f = none) (hfn : C.prog.funcs[f]? = some fn)
    (witness : ∃ (w : World) (tape : Tape) (i : Input), w.os = os ∧ (w.forCall tape i).Shaped C.prog ∧ i.vars = [] ∧ Input.okWide C.prog (w.forCall tape i) .any w.heap.size f i ∧
      ((s.pre enc C.prog fn [] apart (w.forCall tape i).memory i.args ∧ X (w.forCall tape i).memory) ∧ sizedMet enc C.prog fn (OpenSpec.ofChange s) apart (w.forCall tape i).memory i.args) ∧ a.holds C.prog (lone (Frame.enter C.prog f i.args .normal) [] (w.forCall tape i)))
    (body : ∀ (W : World) (base : Nat) (args : Array Value) (ds gs : List (DataW H)) (before : List MemPlace),
      (∀ (j : Nat) t v, fn.params[j]? = some t → args[j]? = some v → Value.okWide C.prog W .any base t v) →
      DataW.Whole enc C.prog fn.params.toList s.vars apart W args.toList ds gs before → X W → W.ShapedOpen C.prog →
      Calls C.prog f args W fun e W' => ∃ v, e = .returned v ∧ s.post enc C.prog fn apart fresh handsOn again W args v W') :
    ReturnsInHanded a C os f .any (fun w args => (s.pre enc C.prog fn [] apart w args ∧ X w) ∧ sizedMet enc C.prog fn (OpenSpec.ofChange s) apart w args) (s.post enc C.prog fn apart fresh handsOn again) := by
  refine returnsInHanded_of_calls own started noInit witness fun w tape i _ hsh _ hok hpre _ => ?_
  obtain ⟨_, _, _, fn', hfn', _, _, _, _, hval⟩ := hok
  obtain rfl : fn' = fn := Option.some.inj (hfn'.symm.trans hfn)
  obtain ⟨⟨⟨ds, gs, before, hw, _⟩, hx⟩, _⟩ := hpre
  refine (body (w.forCall tape i) w.heap.size i.args ds gs before hval (hw.of_heap (by rfl)) (hX _ _ (by rfl) hx) hsh).mono fun e W' ⟨v, he, hp⟩ => ?_
  subst he
  exact ChangeSpec.post_blind hp
end Go.Ab
