/- Arguments that are expressions: how they are opened. -/
import Derived.Test.YtodhphapbemjmaaDoorPartAb3
import Derived.Test.YtodhphapbemjmaaDoorPartRx1
namespace Go.Ab
open Go.Proofs

theorem rowTypes : rowsOk Tryd.prog [3, 5, 22, 23, 25, 48] = true := by kernel_rfl
theorem u25 : ∃ f0 f1 f2 f3 f4 : Field, Tryd.prog.underlying 25 = some (.struct #[f0, f1, f2, f3, f4]) ∧ f0.type = 3 ∧ f1.type = 22 ∧ f2.type = 3 ∧ f3.type = 3 ∧ f4.type = 23 :=
  ⟨_, _, _, _, _, Tryd.underlying25, rfl, rfl, rfl, rfl, rfl⟩
theorem u48 : ∃ f0 f1 : Field, Tryd.prog.underlying 48 = some (.struct #[f0, f1]) ∧ f0.type = 5 ∧ f1.type = 5 := ⟨_, _, Tryd.underlying48, rfl, rfl⟩
theorem all_map {α : Type} (f : α → List L) : ∀ {xs : List (List L)}, (∀ e ∈ xs, ∃ x, e = f x) → ∃ l : List α, xs = l.map f
  | [], _ => ⟨[], rfl⟩
  | e :: xs, h => by
    obtain ⟨x, rfl⟩ := h e List.mem_cons_self
    obtain ⟨l, rfl⟩ := all_map f (xs := xs) fun e he => h e (List.mem_cons_of_mem _ he)
    exact ⟨x :: l, rfl⟩
theorem shp_int {P : Program} {t : TypeId} {k : IntKind} (hu : P.underlying t = some (.int k)) {ls : List L} (h : Shp P t ls) : ∃ n, ls = [.int k n] ∧ (Lit.int k n).wf = true := by
  cases h with
  | int n h hz => rw [hu] at h; cases h; exact ⟨n, rfl, hz⟩
  | bool b h => rw [hu] at h; cases h
  | str s h _ => rw [hu] at h; cases h
  | sl h _ _ => rw [hu] at h; cases h
  | struct lss h _ _ => rw [hu] at h; cases h
theorem shp_sl {P : Program} {t e : TypeId} (hu : P.underlying t = some (.slice e)) {ls : List L} (h : Shp P t ls) : ∃ xs, ls = [.lst e xs] ∧ xs.length ≤ maxLen ∧ ∀ x ∈ xs, Shp P e x := by
  cases h with
  | int n h _ => rw [hu] at h; cases h
  | bool b h => rw [hu] at h; cases h
  | str s h _ => rw [hu] at h; cases h
  | sl h h1 h2 => rw [hu] at h; cases h; exact ⟨_, rfl, h1, h2⟩
  | struct lss h _ _ => rw [hu] at h; cases h
theorem shp_struct {P : Program} {t : TypeId} {fs : Array Field} (hu : P.underlying t = some (.struct fs)) {ls : List L} (h : Shp P t ls) : ∃ lss : List (List L), ls = lss.flatten ∧ lss.length = fs.size ∧ ∀ (i : Nat) f l, fs[i]? = some f → lss[i]? = some l → Shp P f.type l := by
  cases h with
  | int n h _ => rw [hu] at h; cases h
  | bool b h => rw [hu] at h; cases h
  | str s h _ => rw [hu] at h; cases h
  | sl h _ _ => rw [hu] at h; cases h
  | struct lss h h1 h2 => rw [hu] at h; cases h; exact ⟨lss, rfl, h1, h2⟩
theorem shp_u8 {ls : List L} (h : Shp Tryd.prog 5 ls) : ∃ b : UInt8, ls = [.int .u8 b.toNat] := by
  obtain ⟨n, rfl, hz⟩ := shp_int Tryd.underlying5 h
  simp only [Lit.wf, Bool.and_eq_true, decide_eq_true_eq] at hz
  have e1 : IntKind.u8.min = 0 := by decide
  have e2 : IntKind.u8.max = 255 := by decide
  rw [e1, e2] at hz
  refine ⟨UInt8.ofNat n.toNat, ?_⟩
  have : (UInt8.ofNat n.toNat).toNat = n.toNat := by
    rw [UInt8.toNat_ofNat']; omega
  rw [this]
  congr 2; omega
theorem shp48 {ls : List L} (h : Shp Tryd.prog 48 ls) : ∃ r : UInt8 × UInt8, ls = [.int .u8 r.1.toNat, .int .u8 r.2.toNat] := by
  obtain ⟨f0, f1, hu, t0, t1⟩ := u48
  obtain ⟨lss, rfl, hlen, hall⟩ := shp_struct hu h
  match lss, hlen with
  | [a, b], _ =>
    have ha := hall 0 f0 a rfl rfl
    have hb := hall 1 f1 b rfl rfl
    rw [t0] at ha
    rw [t1] at hb
    obtain ⟨x, rfl⟩ := shp_u8 ha
    obtain ⟨y, rfl⟩ := shp_u8 hb
    exact ⟨(x, y), rfl⟩
theorem shp22 {ls : List L} (h : Shp Tryd.prog 22 ls) : ∃ l : List (UInt8 × UInt8), ls = [.lst 48 (encRs l)] := by
  obtain ⟨xs, rfl, _, hx⟩ := shp_sl Tryd.underlying22 h
  obtain ⟨l, rfl⟩ := all_map (fun r : UInt8 × UInt8 => [L.int .u8 r.1.toNat, L.int .u8 r.2.toNat]) (fun e he => shp48 (hx e he))
  exact ⟨l, rfl⟩
theorem shp_x {t : TypeId} {ls : List L} (h : Shp Tryd.prog t ls) : (t = 25 → ∃ x : Rx, ls = encX x) ∧ (t = 23 → ∃ l : List Rx, ls = [.lst 25 (l.map encX)]) := by
  obtain ⟨f0, f1, f2, f3, f4, hu25, t0, t1, t2, t3, t4⟩ := u25
  induction h with
  | int n h _ => exact ⟨fun e => (by subst e; rw [hu25] at h; cases h), fun e => (by subst e; rw [Tryd.underlying23] at h; cases h)⟩
  | bool b h => exact ⟨fun e => (by subst e; rw [hu25] at h; cases h), fun e => (by subst e; rw [Tryd.underlying23] at h; cases h)⟩
  | str s h _ => exact ⟨fun e => (by subst e; rw [hu25] at h; cases h), fun e => (by subst e; rw [Tryd.underlying23] at h; cases h)⟩
  | sl h _ hx ih =>
    refine ⟨fun e => (by subst e; rw [hu25] at h; cases h), fun e => ?_⟩
    subst e
    rw [Tryd.underlying23] at h
    cases h
    obtain ⟨l, rfl⟩ := all_map encX fun e he => (ih e he).1 rfl
    exact ⟨l, rfl⟩
  | struct lss h hlen hall ih =>
    refine ⟨fun e => ?_, fun e => (by subst e; rw [Tryd.underlying23] at h; cases h)⟩
    subst e
    rw [hu25] at h
    cases h
    match lss, hlen with
    | [a, b, c, d, e], _ =>
      have ha := hall 0 f0 a rfl rfl
      have hb := hall 1 f1 b rfl rfl
      have hc := hall 2 f2 c rfl rfl
      have hd := hall 3 f3 d rfl rfl
      obtain ⟨l, rfl⟩ := (ih 4 f4 e rfl rfl).2 t4
      rw [t0] at ha
      rw [t1] at hb
      rw [t2] at hc
      rw [t3] at hd
      obtain ⟨k, rfl, _⟩ := shp_int Tryd.underlying3 ha
      obtain ⟨s, rfl⟩ := shp22 hb
      obtain ⟨mn, rfl, _⟩ := shp_int Tryd.underlying3 hc
      obtain ⟨mx, rfl, _⟩ := shp_int Tryd.underlying3 hd
      exact ⟨.mk k s mn mx l, by rw [encX_eq]; rfl⟩
open Go.ChangeShapes in
/-- An argument that is an expression. -/
theorem open_x {H : Type} {enc : TypeId × Value → H} {W : World} {sp : Nat → Bool} {held : Bool} {cs : Array Value} {d : DataW H} {ps : List MemPlace} (h : DataW.Trod enc Tryd.prog W 0 sp held 25 (.agg cs) d ps) :
    ∃ x : Rx, RepD (Rep Tryd.prog W (fun g _ => g < W.heap.size) fun _ => none) (.agg cs) (.agg [.int .i64 x.kind, .lst 48 (encRs x.set), .int .i64 x.mn, .int .i64 x.mx, .lst 25 (x.subs.map encX)]) := by
  obtain ⟨ls, h1, _, h3⟩ := open_row (fz := fun g _ => g < W.heap.size) (ρ := fun _ => none) rowTypes (fun _ _ h => h) (by simp) h
  obtain ⟨x, rfl⟩ := (shp_x h3).1 rfl
  refine ⟨x, ?_⟩
  rw [encX_eq] at h1
  exact ⟨cs, rfl, h1⟩
end Go.Ab
