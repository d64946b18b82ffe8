/- Arguments that are events and replies: how they are opened; the laid variables. -/
import Derived.Test.YtnalffdkchhcoaaGreatDoorPartAb4
import Derived.Test.YtnalffdkchhcoaaGreatDoorPartSc2
import Derived.Test.YtnalffdkchhcoaaGreatDoorPartSc4
import Derived.Handed
import Derived.MakeChecks
import Derived.Lib.LaidTab
import Derived.Test.YtnalffdkchhcoaaGreatDoorRows
namespace Go.Ab
open Go.Proofs

theorem rowTypes : rowsOk Tryz.prog [3, 4, 9, 23, 24, 29, 30, 32, 34, 35, 36, 38, 39, 40, 42, 51, 52, 54, 56, 65, 217] = true := by kernel_rfl
theorem all_map {α : Type} (f : α → List L) : ∀ {xs : List (List L)}, (∀ e ∈ xs, ∃ x, e = f x) → ∃ l : List α, xs = l.map f
  | [], _ => ⟨[], rfl⟩
  | e :: xs, h => by
    obtain ⟨x, rfl⟩ := h e List.mem_cons_self
    obtain ⟨l, rfl⟩ := all_map f (xs := xs) fun e he => h e (List.mem_cons_of_mem _ he)
    exact ⟨x :: l, rfl⟩
theorem shp_int {P : Program} {t : TypeId} {k : IntKind} (hu : P.underlying t = some (.int k)) {ls : List L} (h : Shp P t ls) : ∃ n, ls = [.int k n] ∧ (Lit.int k n).wf = true := by
  cases h with
  | int n h hz => rw [hu] at h; cases h; exact ⟨n, rfl, hz⟩
  | bool b h => rw [hu] at h; cases h
  | str s h _ => rw [hu] at h; cases h
  | sl h _ _ => rw [hu] at h; cases h
  | struct lss h _ _ => rw [hu] at h; cases h
theorem shp_bool {P : Program} {t : TypeId} (hu : P.underlying t = some .bool) {ls : List L} (h : Shp P t ls) : ∃ s, ls = [.bool s] := by
  cases h with
  | int n h hz => rw [hu] at h; cases h
  | bool b h => exact ⟨b, rfl⟩
  | str s h _ => rw [hu] at h; cases h
  | sl h _ _ => rw [hu] at h; cases h
  | struct lss h _ _ => rw [hu] at h; cases h
theorem shp_str {P : Program} {t : TypeId} (hu : P.underlying t = some .string) {ls : List L} (h : Shp P t ls) : ∃ s : W, ls = [.str (mk s)] := by
  cases h with
  | int n h hz => rw [hu] at h; cases h
  | bool b h => rw [hu] at h; cases h
  | str s h _ => exact ⟨bl s, rfl⟩
  | sl h _ _ => rw [hu] at h; cases h
  | struct lss h _ _ => rw [hu] at h; cases h
theorem shp_sl {P : Program} {t e : TypeId} (hu : P.underlying t = some (.slice e)) {ls : List L} (h : Shp P t ls) : ∃ xs, ls = [.lst e xs] ∧ ∀ x ∈ xs, Shp P e x := by
  cases h with
  | int n h _ => rw [hu] at h; cases h
  | bool b h => rw [hu] at h; cases h
  | str s h _ => rw [hu] at h; cases h
  | sl h h1 h2 => rw [hu] at h; cases h; exact ⟨_, rfl, h2⟩
  | struct lss h _ _ => rw [hu] at h; cases h
theorem shp_struct {P : Program} {t : TypeId} {fs : Array Field} (hu : P.underlying t = some (.struct fs)) {ls : List L} (h : Shp P t ls) : ∃ lss : List (List L), ls = lss.flatten ∧ lss.length = fs.size ∧ ∀ (i : Nat) f l, fs[i]? = some f → lss[i]? = some l → Shp P f.type l := by
  cases h with
  | int n h _ => rw [hu] at h; cases h
  | bool b h => rw [hu] at h; cases h
  | str s h _ => rw [hu] at h; cases h
  | sl h _ _ => rw [hu] at h; cases h
  | struct lss h h1 h2 => rw [hu] at h; cases h; exact ⟨lss, rfl, h1, h2⟩
theorem wf_i64 {n : Int} (h : (Lit.int .i64 n).wf = true) : i64B n = true := by
  simp [Lit.wf, IntKind.min, IntKind.max, IntKind.bits, IntKind.signed] at h
  exact i64B_t (by omega) (by omega)
theorem shp3 {ls : List L} (h : Shp Tryz.prog 3 ls) : ∃ n : Int, ls = [.int .i64 n] ∧ i64B n = true := by
  obtain ⟨n, h1, h2⟩ := shp_int Tryz.underlying3 h
  exact ⟨n, h1, wf_i64 h2⟩
theorem shp24 {ls : List L} (h : Shp Tryz.prog 24 ls) : ∃ n : Int, ls = [.int .i64 n] ∧ i64B n = true := by
  obtain ⟨n, h1, h2⟩ := shp_int Tryz.underlying24 h
  exact ⟨n, h1, wf_i64 h2⟩
theorem shp4 {ls : List L} (h : Shp Tryz.prog 4 ls) : ∃ n : Bool, ls = [.bool n] := shp_bool Tryz.underlying4 h
theorem shp9 {ls : List L} (h : Shp Tryz.prog 9 ls) : ∃ w : W, ls = [.str (mk w)] := shp_str Tryz.underlying9 h
theorem all_eI : ∀ {xs : List (List L)}, (∀ e ∈ xs, ∃ n : Int, e = [.int .i64 n] ∧ i64B n = true) → ∃ l : List Int, xs = eIs l ∧ l.all i64B = true
  | [], _ => ⟨[], rfl, rfl⟩
  | e :: xs, h => by
    obtain ⟨x, rfl, hx⟩ := h e List.mem_cons_self
    obtain ⟨l, rfl, hl⟩ := all_eI (xs := xs) fun e he => h e (List.mem_cons_of_mem _ he)
    exact ⟨x :: l, rfl, by rw [List.all_cons, hx, hl]; rfl⟩
theorem shp35 {ls : List L} (h : Shp Tryz.prog 35 ls) : ∃ l : List Int, ls = [.lst 3 (eIs l)] ∧ l.all i64B = true := by
  obtain ⟨xs, rfl, hx⟩ := shp_sl Tryz.underlying35 h
  obtain ⟨l, rfl, hl⟩ := all_eI fun e he => shp3 (hx e he)
  exact ⟨l, rfl, hl⟩
theorem shp36 {ls : List L} (h : Shp Tryz.prog 36 ls) : ∃ l : List W, ls = [.lst 9 (eSs l)] := by
  obtain ⟨xs, rfl, hx⟩ := shp_sl Tryz.underlying36 h
  obtain ⟨l, rfl⟩ := all_map (fun w => [L.str (mk w)]) fun e he => shp9 (hx e he)
  exact ⟨l, rfl⟩
theorem u51 : ∃ f0 f1 f2 : Field, Tryz.prog.underlying 51 = some (.struct #[f0, f1, f2]) ∧ f0.type = 9 ∧ f1.type = 9 ∧ f2.type = 4 := ⟨_, _, _, Tryz.underlying51, rfl, rfl, rfl⟩
theorem u65 : ∃ f0 f1 f2 f3 : Field, Tryz.prog.underlying 65 = some (.struct #[f0, f1, f2, f3]) ∧ f0.type = 4 ∧ f1.type = 9 ∧ f2.type = 9 ∧ f3.type = 9 := ⟨_, _, _, _, Tryz.underlying65, rfl, rfl, rfl, rfl⟩
theorem u38 : ∃ f0 f1 f2 : Field, Tryz.prog.underlying 38 = some (.struct #[f0, f1, f2]) ∧ f0.type = 9 ∧ f1.type = 35 ∧ f2.type = 36 := ⟨_, _, _, Tryz.underlying38, rfl, rfl, rfl⟩
theorem u54 : ∃ f0 f1 f2 : Field, Tryz.prog.underlying 54 = some (.struct #[f0, f1, f2]) ∧ f0.type = 3 ∧ f1.type = 3 ∧ f2.type = 52 := ⟨_, _, _, Tryz.underlying54, rfl, rfl, rfl⟩
theorem u56 : ∃ f0 f1 f2 f3 : Field, Tryz.prog.underlying 56 = some (.struct #[f0, f1, f2, f3]) ∧ f0.type = 3 ∧ f1.type = 3 ∧ f2.type = 3 ∧ f3.type = 3 := ⟨_, _, _, _, Tryz.underlying56, rfl, rfl, rfl, rfl⟩
theorem u32 : ∃ f0 f1 f2 : Field, Tryz.prog.underlying 32 = some (.struct #[f0, f1, f2]) ∧ f0.type = 29 ∧ f1.type = 30 ∧ f2.type = 4 := ⟨_, _, _, Tryz.underlying32, rfl, rfl, rfl⟩
theorem u34 : ∃ f0 f1 f2 f3 : Field, Tryz.prog.underlying 34 = some (.struct #[f0, f1, f2, f3]) ∧ f0.type = 24 ∧ f1.type = 3 ∧ f2.type = 32 ∧ f3.type = 3 := ⟨_, _, _, _, Tryz.underlying34, rfl, rfl, rfl, rfl⟩
theorem u42 : ∃ f0 f1 f2 f3 f4 f5 f6 f7 f8 f9 f10 f11 : Field, Tryz.prog.underlying 42 = some (.struct #[f0, f1, f2, f3, f4, f5, f6, f7, f8, f9, f10, f11]) ∧ f0.type = 3 ∧ f1.type = 9 ∧ f2.type = 9 ∧ f3.type = 9 ∧ f4.type = 3 ∧ f5.type = 3 ∧ f6.type = 3 ∧ f7.type = 3 ∧ f8.type = 9 ∧ f9.type = 38 ∧ f10.type = 39 ∧ f11.type = 40 := ⟨_, _, _, _, _, _, _, _, _, _, _, _, Tryz.underlying42, rfl, rfl, rfl, rfl, rfl, rfl, rfl, rfl, rfl, rfl, rfl, rfl⟩
theorem shp51 {ls : List L} (h : Shp Tryz.prog 51 ls) : ∃ x : Wr, ls = eW1 x := by
  obtain ⟨f0, f1, f2, hu, t0, t1, t2⟩ := u51
  obtain ⟨lss, rfl, hlen, hall⟩ := shp_struct hu h
  match lss, hlen with
  | [a, b, c], _ =>
    have ha := hall 0 f0 a rfl rfl
    have hb := hall 1 f1 b rfl rfl
    have hc := hall 2 f2 c rfl rfl
    rw [t0] at ha
    rw [t1] at hb
    rw [t2] at hc
    obtain ⟨x, rfl⟩ := shp9 ha
    obtain ⟨y, rfl⟩ := shp9 hb
    obtain ⟨z, rfl⟩ := shp4 hc
    exact ⟨(x, y, z), rfl⟩
theorem shp65 {ls : List L} (h : Shp Tryz.prog 65 ls) : ∃ x : Ru, ls = eR1 x := by
  obtain ⟨f0, f1, f2, f3, hu, t0, t1, t2, t3⟩ := u65
  obtain ⟨lss, rfl, hlen, hall⟩ := shp_struct hu h
  match lss, hlen with
  | [a, b, c, d], _ =>
    have ha := hall 0 f0 a rfl rfl
    have hb := hall 1 f1 b rfl rfl
    have hc := hall 2 f2 c rfl rfl
    have hd := hall 3 f3 d rfl rfl
    rw [t0] at ha
    rw [t1] at hb
    rw [t2] at hc
    rw [t3] at hd
    obtain ⟨x, rfl⟩ := shp4 ha
    obtain ⟨y, rfl⟩ := shp9 hb
    obtain ⟨z, rfl⟩ := shp9 hc
    obtain ⟨t, rfl⟩ := shp9 hd
    exact ⟨(x, y, z, t), rfl⟩
theorem shp39 {ls : List L} (h : Shp Tryz.prog 39 ls) : ∃ l : List Ru, ls = [.lst 65 (eRs l)] := by
  obtain ⟨xs, rfl, hx⟩ := shp_sl Tryz.underlying39 h
  obtain ⟨l, rfl⟩ := all_map eR1 fun e he => shp65 (hx e he)
  exact ⟨l, rfl⟩
theorem shp40 {ls : List L} (h : Shp Tryz.prog 40 ls) : ∃ l : List Wr, ls = [.lst 51 (eWs l)] := by
  obtain ⟨xs, rfl, hx⟩ := shp_sl Tryz.underlying40 h
  obtain ⟨l, rfl⟩ := all_map eW1 fun e he => shp51 (hx e he)
  exact ⟨l, rfl⟩
theorem shp38 {ls : List L} (h : Shp Tryz.prog 38 ls) : ∃ (g : W) (us : List Int) (gs : List W), ls = [.str (mk g), .lst 3 (eIs us), .lst 9 (eSs gs)] ∧ us.all i64B = true := by
  obtain ⟨f0, f1, f2, hu, t0, t1, t2⟩ := u38
  obtain ⟨lss, rfl, hlen, hall⟩ := shp_struct hu h
  match lss, hlen with
  | [a, b, c], _ =>
    have ha := hall 0 f0 a rfl rfl
    have hb := hall 1 f1 b rfl rfl
    have hc := hall 2 f2 c rfl rfl
    rw [t0] at ha
    rw [t1] at hb
    rw [t2] at hc
    obtain ⟨x, rfl⟩ := shp9 ha
    obtain ⟨y, rfl, hy⟩ := shp35 hb
    obtain ⟨z, rfl⟩ := shp36 hc
    exact ⟨x, y, z, rfl, hy⟩
def okE (e : Ev) : Bool := i64B e.kind && okI e
theorem shp42 {ls : List L} (h : Shp Tryz.prog 42 ls) : ∃ e : Ev, ls = encE e ∧ okE e = true := by
  obtain ⟨f0, f1, f2, f3, f4, f5, f6, f7, f8, f9, f10, f11, hu, t0, t1, t2, t3, t4, t5, t6, t7, t8, t9, t10, t11⟩ := u42
  obtain ⟨lss, rfl, hlen, hall⟩ := shp_struct hu h
  match lss, hlen with
  | [a0, a1, a2, a3, a4, a5, a6, a7, a8, a9, a10, a11], _ =>
    have h0 := hall 0 f0 a0 rfl rfl
    have h1 := hall 1 f1 a1 rfl rfl
    have h2 := hall 2 f2 a2 rfl rfl
    have h3 := hall 3 f3 a3 rfl rfl
    have h4 := hall 4 f4 a4 rfl rfl
    have h5 := hall 5 f5 a5 rfl rfl
    have h6 := hall 6 f6 a6 rfl rfl
    have h7 := hall 7 f7 a7 rfl rfl
    have h8 := hall 8 f8 a8 rfl rfl
    have h9 := hall 9 f9 a9 rfl rfl
    have h10 := hall 10 f10 a10 rfl rfl
    have h11 := hall 11 f11 a11 rfl rfl
    rw [t0] at h0
    rw [t1] at h1
    rw [t2] at h2
    rw [t3] at h3
    rw [t4] at h4
    rw [t5] at h5
    rw [t6] at h6
    rw [t7] at h7
    rw [t8] at h8
    rw [t9] at h9
    rw [t10] at h10
    rw [t11] at h11
    obtain ⟨k, rfl, hk⟩ := shp3 h0
    obtain ⟨a, rfl⟩ := shp9 h1
    obtain ⟨b, rfl⟩ := shp9 h2
    obtain ⟨c, rfl⟩ := shp9 h3
    obtain ⟨p, rfl, hp⟩ := shp3 h4
    obtain ⟨q, rfl, hq⟩ := shp3 h5
    obtain ⟨r, rfl, hr⟩ := shp3 h6
    obtain ⟨s, rfl, hs⟩ := shp3 h7
    obtain ⟨t, rfl⟩ := shp9 h8
    obtain ⟨g, us, gs, rfl, hu⟩ := shp38 h9
    obtain ⟨rs, rfl⟩ := shp39 h10
    obtain ⟨ws, rfl⟩ := shp40 h11
    refine ⟨⟨k, a, b, c, p, q, r, s, t, g, us, gs, rs, ws⟩, rfl, ?_⟩
    show (i64B k && ((i64B p && (i64B q && (i64B r && i64B s))) && us.all i64B)) = true
    rw [hk, hp, hq, hr, hs, hu]; rfl
structure El where
  l : List Ev
  ok : l.all okE = true
theorem all_eE : ∀ {xs : List (List L)}, (∀ e ∈ xs, ∃ x : Ev, e = encE x ∧ okE x = true) → ∃ l : List Ev, xs = eEs l ∧ l.all okE = true
  | [], _ => ⟨[], rfl, rfl⟩
  | e :: xs, h => by
    obtain ⟨x, rfl, hx⟩ := h e List.mem_cons_self
    obtain ⟨l, rfl, hl⟩ := all_eE (xs := xs) fun e he => h e (List.mem_cons_of_mem _ he)
    exact ⟨x :: l, rfl, by rw [List.all_cons, hx, hl]; rfl⟩
theorem shp23 {ls : List L} (h : Shp Tryz.prog 23 ls) : ∃ x : El, ls = [.lst 42 (eEs x.l)] := by
  obtain ⟨xs, rfl, hx⟩ := shp_sl Tryz.underlying23 h
  obtain ⟨l, rfl, hl⟩ := all_eE fun e he => shp42 (hx e he)
  exact ⟨⟨l, hl⟩, rfl⟩
theorem shp54 {ls : List L} (h : Shp Tryz.prog 54 ls) : okRe ls = true := by
  obtain ⟨f0, f1, f2, hu, t0, t1, t2⟩ := u54
  obtain ⟨lss, rfl, hlen, hall⟩ := shp_struct hu h
  match lss, hlen with
  | [a, b, c], _ =>
    have ha := hall 0 f0 a rfl rfl
    have hb := hall 1 f1 b rfl rfl
    rw [t0] at ha
    rw [t1] at hb
    obtain ⟨x, rfl, hx⟩ := shp3 ha
    obtain ⟨y, rfl, hy⟩ := shp3 hb
    show (i64B x && i64B y) = true
    rw [hx, hy]; rfl
theorem shp56 {ls : List L} (h : Shp Tryz.prog 56 ls) : okPr ls = true := by
  obtain ⟨f0, f1, f2, f3, hu, t0, t1, t2, t3⟩ := u56
  obtain ⟨lss, rfl, hlen, hall⟩ := shp_struct hu h
  match lss, hlen with
  | [a, b, c, d], _ =>
    have ha := hall 0 f0 a rfl rfl
    have hb := hall 1 f1 b rfl rfl
    have hc := hall 2 f2 c rfl rfl
    have hd := hall 3 f3 d rfl rfl
    rw [t0] at ha
    rw [t1] at hb
    rw [t2] at hc
    rw [t3] at hd
    obtain ⟨x, rfl, hx⟩ := shp3 ha
    obtain ⟨y, rfl, hy⟩ := shp3 hb
    obtain ⟨z, rfl, hz⟩ := shp3 hc
    obtain ⟨t, rfl, ht⟩ := shp3 hd
    show ((i64B x && i64B y) && (i64B z && i64B t)) = true
    rw [hx, hy, hz, ht]; rfl
structure Rp where
  err : Int
  n : Int
  re : List (List L)
  pr : List (List L)
  c : Bool
  tot : Int
  ok : ((i64B err && (i64B n && i64B tot)) && (re.all okRe && pr.all okPr)) = true
def encR (r : Rp) : List L := [.int .i64 r.err, .int .i64 r.n, .lst 54 r.re, .lst 56 r.pr, .bool r.c, .int .i64 r.tot]
theorem shp34 {ls : List L} (h : Shp Tryz.prog 34 ls) : ∃ r : Rp, ls = encR r := by
  obtain ⟨f0, f1, f2, f3, hu, t0, t1, t2, t3⟩ := u34
  obtain ⟨lss, rfl, hlen, hall⟩ := shp_struct hu h
  match lss, hlen with
  | [a, b, c, d], _ =>
    have ha := hall 0 f0 a rfl rfl
    have hb := hall 1 f1 b rfl rfl
    have hc := hall 2 f2 c rfl rfl
    have hd := hall 3 f3 d rfl rfl
    rw [t0] at ha
    rw [t1] at hb
    rw [t2] at hc
    rw [t3] at hd
    obtain ⟨x, rfl, hx⟩ := shp24 ha
    obtain ⟨y, rfl, hy⟩ := shp3 hb
    obtain ⟨t, rfl, ht⟩ := shp3 hd
    obtain ⟨g0, g1, g2, hv, s0, s1, s2⟩ := u32
    obtain ⟨mss, rfl, hlen2, hall2⟩ := shp_struct hv hc
    match mss, hlen2 with
    | [p, q, r], _ =>
      have hp := hall2 0 g0 p rfl rfl
      have hq := hall2 1 g1 q rfl rfl
      have hr := hall2 2 g2 r rfl rfl
      rw [s0] at hp
      rw [s1] at hq
      rw [s2] at hr
      obtain ⟨re, rfl, h1⟩ := shp_sl Tryz.underlying29 hp
      obtain ⟨pr, rfl, h2⟩ := shp_sl Tryz.underlying30 hq
      obtain ⟨c, rfl⟩ := shp4 hr
      refine ⟨⟨x, y, re, pr, c, t, ?_⟩, rfl⟩
      rw [hx, hy, ht, List.all_eq_true.2 fun e he => shp54 (h1 e he), List.all_eq_true.2 fun e he => shp56 (h2 e he)]; rfl
set_option maxRecDepth 100000 in
open Go.ChangeShapes Go.WideShapes in
theorem open_E {H : Type} {enc : TypeId × Value → H} {W : World} {sp : Nat → Bool} {held : Bool} {v : Value} {d : DataW H} {ps : List MemPlace} {r : Reach} {base : Nat} (hv : Value.okWide Tryz.prog W r base 23 v) (h : DataW.Trod enc Tryz.prog W 0 sp held 23 v d ps) :
    ∃ x : El, RepD (Rep Tryz.prog W (fun g _ => g < W.heap.size) fun _ => none) v (.lf (.lst 42 (eEs x.l))) := by
  obtain ⟨a, n, c, rfl⟩ := okWide_slice Tryz.underlying23 hv
  obtain ⟨ls, h1, _, h3⟩ := open_row (fz := fun g _ => g < W.heap.size) (ρ := fun _ => none) rowTypes (fun _ _ h => h) (by simp) h
  obtain ⟨x, rfl⟩ := shp23 h3
  exact ⟨x, h1.1⟩
set_option maxRecDepth 100000 in
open Go.ChangeShapes Go.WideShapes in
theorem open_R {H : Type} {enc : TypeId × Value → H} {W : World} {sp : Nat → Bool} {held : Bool} {v : Value} {d : DataW H} {ps : List MemPlace} {r : Reach} {base : Nat} (hv : Value.okWide Tryz.prog W r base 34 v) (h : DataW.Trod enc Tryz.prog W 0 sp held 34 v d ps) :
    ∃ x : Rp, RepD (Rep Tryz.prog W (fun g _ => g < W.heap.size) fun _ => none) v (.agg (encR x)) := by
  obtain ⟨cs, rfl, _⟩ := okWide_struct Tryz.underlying34 hv
  obtain ⟨ls, h1, _, h3⟩ := open_row (fz := fun g _ => g < W.heap.size) (ρ := fun _ => none) rowTypes (fun _ _ h => h) (by simp) h
  obtain ⟨x, rfl⟩ := shp34 h3
  exact ⟨x, _, rfl, h1⟩

theorem var_lt {P : Program} {w : World} {n : String} {g : Nat} {cs : Array Value} (hg : P.globalNamed n = some g) (h : w.var? P n = some cs) : g < w.heap.size := by
  unfold World.var? at h
  rw [hg] at h
  simp only [Option.bind_some] at h
  split at h
  · rename_i e; exact (Array.getElem?_eq_some_iff.1 e).1
  · cases h
set_option maxRecDepth 100000 in
theorem maxLen_var {w : World} (h : w.ShapedOpen Tryz.prog) : ∃ m, w.var? Tryz.prog "internal/bytealg.MaxLen" = some #[Value.int .i64 m] := by
  obtain ⟨cs, hh, hs, hr⟩ := h.1 0 #[.int .i64 0] 3 (of_decide_eq_true (by kernel_rfl)) (by kernel_rfl)
  obtain ⟨ts, hts, _, hall⟩ := hr (by kernel_rfl)
  rw [show Tryz.prog.cellTypes Tryz.prog.depth 3 = some [3] by kernel_rfl] at hts
  cases hts
  have h1 : cs.size = 1 := hs
  obtain ⟨u, hu', hok⟩ := hall 0 cs[0] (by simp [h1])
  have : u = 3 := by simpa using hu'.symm
  subst this
  have hcell : cs = #[cs[0]] := by
    apply Array.ext
    · simpa using h1
    · intro i hi1 hi2
      have : i = 0 := by omega
      subst this
      rfl
  unfold Cell.ok at hok
  rw [Tryz.underlying3] at hok
  have hv : w.var? Tryz.prog "internal/bytealg.MaxLen" = some cs := by
    unfold World.var?
    rw [show Tryz.prog.globalNamed "internal/bytealg.MaxLen" = some 0 by kernel_rfl]
    simp only [Option.bind_some, hh]
  rw [hv, hcell]
  cases hx : cs[0] <;> rw [hx] at hok <;> simp at hok
  case int k' n => exact ⟨n, by rw [hok.1]⟩
theorem pow10_var {w : World} {l : List (String × DataW Unit)} (hl : l = YtnalffdkchhcoaaGreatDoor.Rows.scriptParsesRow.laid) (h : laidMetH Tryz.prog l w) : w.var? Tryz.prog "internal/strconv.uint64pow10" = some (Lib.pow10Tab.map fun z => Value.int .u64 z).toArray := by
  subst hl
  rw [MakeChecks.laidMetH_plain _ _ _ (by kernel_rfl)] at h
  obtain ⟨ps, ⟨_, _, _, _, _, _, _, _, _, _, ⟨_, _, _, _, _, _, _, _, _, _, ⟨g', t', cs, fuel, p, q, hg', ht', hvar, hd, _, _⟩, _⟩, _⟩, _⟩ := h
  obtain rfl := Option.some.inj ((show Tryz.prog.globalNamed "internal/strconv.uint64pow10" = some 1 by kernel_rfl).symm.trans hg')
  obtain rfl := Option.some.inj ((show (Tryz.prog.globals[1]?).map (·.type) = some 151 by kernel_rfl).symm.trans ht')
  have e : (YtnalffdkchhcoaaGreatDoor.Rows.laid_internal_strconv_uint64pow10 : DataW Unit) = Lib.tabData .u64 Lib.pow10Tab := by kernel_rfl
  rw [e] at hd
  rw [hvar, ← Lib.cells_of_tab Tryz.underlying151 Tryz.underlying140 (by kernel_rfl) (by kernel_rfl) hd]
theorem tabs_of {ks : List (Nat × Con)} {w : World} {l : List (String × DataW Unit)} (hl : l = YtnalffdkchhcoaaGreatDoor.Rows.scriptParsesRow.laid) (hL : laidMetH Tryz.prog l w) (hS : w.ShapedOpen Tryz.prog) : Tabs (cfg ks) w fun _ => False := by
  intro t ht
  have ht : t ∈ tabsL := ht
  unfold tabsL at ht
  rcases List.mem_cons.1 ht with rfl | ht
  · have hv := pow10_var hl hL
    have hg : Tryz.prog.globalNamed "internal/strconv.uint64pow10" = some 1 := by kernel_rfl
    exact ⟨1, hg, var_lt hg hv, fun h => h, _, hv, rfl⟩
  · rw [List.mem_singleton.1 ht]
    obtain ⟨m, hv⟩ := maxLen_var hS
    have hg : Tryz.prog.globalNamed "internal/bytealg.MaxLen" = some 0 := by kernel_rfl
    exact ⟨0, hg, var_lt hg hv, fun h => h, _, hv, m, rfl⟩

open Go.ChangeShapes in
theorem row_frame {H : Type} {enc : TypeId × Value → H} {a : Assume} {C : Checked} {os : Os} {f : FuncId} {fn : Func} {s : ChangeSpec} {apart fresh handsOn again : Bool} {X : World → Prop}
    (hX : ∀ (w w' : World), w.heap = w'.heap → X w → X w')
    (own : ownKnob C.prog.godebug = none) (started : os.Started) (noInit : C.prog.inits.idxOf? f = none) (hfn : C.prog.funcs[f]? = some fn)
    (witness : ∃ (w : World) (tape : Tape) (i : Input), w.os = os ∧ (w.forCall tape i).Shaped C.prog ∧ i.vars = [] ∧ Input.okWide C.prog (w.forCall tape i) .any w.heap.size f i ∧
      ((s.pre enc C.prog fn [] apart (w.forCall tape i).memory i.args ∧ X (w.forCall tape i).memory) ∧ sizedMet enc C.prog fn (OpenSpec.ofChange s) apart (w.forCall tape i).memory i.args) ∧ a.holds C.prog (lone (Frame.enter C.prog f i.args .normal) [] (w.forCall tape i)))
    (body : ∀ (W : World) (base : Nat) (args : Array Value) (ds gs : List (DataW H)) (before : List MemPlace),
      (∀ (j : Nat) t v, fn.params[j]? = some t → args[j]? = some v → Value.okWide C.prog W .any base t v) →
      DataW.Whole enc C.prog fn.params.toList s.vars apart W args.toList ds gs before → X W → W.ShapedOpen C.prog →
      Calls C.prog f args W fun e W' => ∃ v, e = .returned v ∧ s.post enc C.prog fn apart fresh handsOn again W args v W') :
    ReturnsInHanded a C os f .any (fun w args => (s.pre enc C.prog fn [] apart w args ∧ X w) ∧ sizedMet enc C.prog fn (OpenSpec.ofChange s) apart w args) (s.post enc C.prog fn apart fresh handsOn again) := by
  refine returnsInHanded_of_calls own started noInit witness fun w tape i _ hsh _ hok hpre _ => ?_
  obtain ⟨_, _, _, fn', hfn', _, _, _, _, hval⟩ := hok
  obtain rfl : fn' = fn := Option.some.inj (hfn'.symm.trans hfn)
  obtain ⟨⟨⟨ds, gs, before, hw, _⟩, hx⟩, _⟩ := hpre
  refine (body (w.forCall tape i) w.heap.size i.args ds gs before hval (hw.of_heap (by rfl)) (hX _ _ (by rfl) hx) hsh).mono fun e W' ⟨v, he, hp⟩ => ?_
  subst he
  exact ChangeSpec.post_blind hp
end Go.Ab
namespace Go.Ab
open Go.Proofs
noncomputable abbrev clp : Cfg := cfg [k_alive, k_small, k_pprint, k_rprint, k_pline, k_rline]
theorem prints_loop (l : List Ev) (hl : l.length ≤ 10) (hg : ∀ e ∈ l, gLn e = true ∧ gRl e = true) : ∀ (m i : Nat), i + m = l.length → Runs clp (lPrints_q10 (eEs l) (i : Nat)) [.bool true]
  | 0, i, h => by
    refine Runs.by (lPrints_p10 · _ _) ?_
    rw [eEs_len, ev_lt_f (by omega)]
    exact .ret
  | m + 1, i, h => by
    have hi : i < l.length := by omega
    have hm : l.getD i evD ∈ l := by simp [List.getD, List.getElem?_eq_getElem hi]
    obtain ⟨g1, g2⟩ := hg _ hm
    have ih := prints_loop l hl hg m (i + 1) (by omega)
    refine Runs.by (lPrints_p10 · _ _) ?_
    have hx : atL (eEs l) (i : Int) = encE (l.getD i evD) := atL_map _ l i evD hi
    rw [hx, eEs_len, ev_lt_t (by omega), ev_le_t (by omega)]
    generalize l.getD i evD = e at *
    have i1 : isLs (cX 10 (encE e)) (cX 11 (encE e)) (cX 12 (encE e)) (cX 13 (encE e)) = true := isLs_e e.users e.groups e.rules e.writes
    rw [hdE e, i1, g1, g2, lnR_eq]
    simp only [Bool.and_self, cond_true, bne_self_eq_false, beq_self_eq_true, Bool.not_true, cond_false]
    exact .go' (by rw [w64 (by omega) (by omega)]; rfl) ih
theorem run_ScriptPrints (x : El) : Runs clp (.enter 5 [.lf (.lst 42 (eEs x.l))] []) [.bool true] := by
  obtain ⟨l, ok⟩ := x
  refine Runs.by (lPrints_e · _) ?_
  show RunsF _ _ _
  dsimp only
  rw [isEs_e, dEs_e, eEs_len]
  cases hs : smallB l
  · exact .ret
  · have hs' := hs
    unfold smallB at hs'
    rw [Bool.and_eq_true] at hs'
    have hl := Nat.le_of_ble_eq_true hs'.1
    have hg : ∀ e ∈ l, gLn e = true ∧ gRl e = true := fun e he => by
      have h1 := List.all_eq_true.1 hs'.2 e he
      have h2 := List.all_eq_true.1 ok e he
      unfold okE at h2
      rw [Bool.and_eq_true] at h2
      exact ⟨gLn_sm h1 h2.2, gRl_sm h1 h2.2 h2.1⟩
    rw [nb (show l.length ≤ 10000 by omega), List.all_eq_true.2 fun e he => (hg e he).1, List.all_eq_true.2 fun e he => (hg e he).2, prR_eq]
    simp only [Bool.and_self, cond_true, bne_self_eq_false, beq_self_eq_true, Bool.not_true, cond_false]
    exact .go (prints_loop l hl hg l.length 0 (Nat.zero_add _))
end Go.Ab
