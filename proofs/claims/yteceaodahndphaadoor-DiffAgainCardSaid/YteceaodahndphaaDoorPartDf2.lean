/-
  DERIVED: THE SHELF's CONTRACTS AT THIS DUMP, IN PLAIN WORDS (tools/lay-plain.mjs out of 'TrydShelf.lean', which tools/lay-shelf.mjs wrote): THE SAME DECLARATIONS UNDER THE SAME NAMES: 'import', 'namespace', 'open', 'def', 'theorem' AND NOTHING ELSE: no command of the shelf's: FOR A HAND-IN. Each laying: the table of numbers ('.._ren') and one theorem, a field a fact of the dump's own or the kernel's comparison; each contract: ONE APPLICATION.
-/
import Derived.Shelf.Strconv.Itoa0
import Derived.Shelf.Strconv.Itoa1
import Derived.Shelf.LaysM
import Derived.Shelf.Strconv.Itoa2
import Derived.Shelf.Strconv.Itoa3
import Derived.Shelf.Strings.Search1
import Derived.Shelf.Strings.Search2
import Derived.Shelf.Strings.Search3
import Derived.Shelf.Strings.Count
import Derived.Shelf.Strings.Split
import Derived.Test.YteceaodahndphaaDoorProg
import Derived.Test.YteceaodahndphaaDoorPartDf1
import Derived.Lib.AppendIntMem
import Derived.Lib.SplitLaws
namespace Go.Proofs
open Go.Shelf
def Tryd.laysM171_ren : Go.Shelf.Ren := ⟨fun | 171 => 47 | 243 => 58 | 246 => 67 | 283 => 72 | 284 => 73 | 285 => 74 | 286 => 75 | 129 => 82 | 317 => 81 | 318 => 83 | 319 => 84 | 320 => 85 | 337 => 91 | 338 => 92 | n => n, fun | 3 => 3 | 9 => 9 | 2 => 2 | 4 => 4 | 171 => 96 | 0 => 0 | 53 => 97 | 37 => 64 | 5 => 5 | 173 => 100 | 212 => 108 | 51 => 109 | 20 => 20 | 213 => 110 | 46 => 95 | 232 => 120 | 233 => 121 | n => n, fun | 17 => 0 | 18 => 4 | 19 => 5 | n => n⟩
theorem Tryd.laysM171 : Go.Proofs.LaysM.n171 Tryd.prog Tryd.laysM171_ren := {
  mixed := by kernel_rfl
  f129 := Tryd.func82.trans (congrArg some (by kernel_rfl))
  f171 := Tryd.func47.trans (congrArg some (by kernel_rfl))
  f243 := Tryd.func58.trans (congrArg some (by kernel_rfl))
  f246 := Tryd.func67.trans (congrArg some (by kernel_rfl))
  f283 := Tryd.func72.trans (congrArg some (by kernel_rfl))
  f284 := Tryd.func73.trans (congrArg some (by kernel_rfl))
  f285 := Tryd.func74.trans (congrArg some (by kernel_rfl))
  f286 := Tryd.func75.trans (congrArg some (by kernel_rfl))
  f317 := Tryd.func81.trans (congrArg some (by kernel_rfl))
  f318 := Tryd.func83.trans (congrArg some (by kernel_rfl))
  f319 := Tryd.func84.trans (congrArg some (by kernel_rfl))
  f320 := Tryd.func85.trans (congrArg some (by kernel_rfl))
  f337 := Tryd.func91.trans (congrArg some (by kernel_rfl))
  f338 := Tryd.func92.trans (congrArg some (by kernel_rfl))
  t0 := Tryd.underlying0
  a0 := Tryd.isAgg0
  z0 := Tryd.sizeOf0
  v0 := Tryd.zeroValue0
  t2 := Tryd.underlying2
  a2 := Tryd.isAgg2
  z2 := Tryd.sizeOf2
  v2 := Tryd.zeroValue2
  t3 := Tryd.underlying3
  a3 := Tryd.isAgg3
  z3 := Tryd.sizeOf3
  v3 := Tryd.zeroValue3
  t4 := Tryd.underlying4
  a4 := Tryd.isAgg4
  z4 := Tryd.sizeOf4
  v4 := Tryd.zeroValue4
  t5 := Tryd.underlying5
  a5 := Tryd.isAgg5
  z5 := Tryd.sizeOf5
  v5 := Tryd.zeroValue5
  t9 := Tryd.underlying9
  a9 := Tryd.isAgg9
  z9 := Tryd.sizeOf9
  v9 := Tryd.zeroValue9
  t20 := Tryd.underlying20
  a20 := Tryd.isAgg20
  z20 := Tryd.sizeOf20
  v20 := Tryd.zeroValue20
  t37 := Tryd.underlying64
  a37 := Tryd.isAgg64
  z37 := Tryd.sizeOf64
  v37 := Tryd.zeroValue64
  t46 := Tryd.underlying95
  a46 := Tryd.isAgg95
  z46 := Tryd.sizeOf95
  v46 := Tryd.zeroValue95
  t51 := Tryd.underlying109
  a51 := Tryd.isAgg109
  z51 := Tryd.sizeOf109
  v51 := Tryd.zeroValue109
  t53 := Tryd.underlying97
  a53 := Tryd.isAgg97
  z53 := Tryd.sizeOf97
  v53 := Tryd.zeroValue97
  t171 := Tryd.underlying96
  a171 := Tryd.isAgg96
  z171 := Tryd.sizeOf96
  v171 := Tryd.zeroValue96
  t173 := Tryd.underlying100
  a173 := Tryd.isAgg100
  z173 := Tryd.sizeOf100
  v173 := Tryd.zeroValue100
  t212 := Tryd.underlying108
  a212 := Tryd.isAgg108
  z212 := Tryd.sizeOf108
  v212 := Tryd.zeroValue108
  t213 := Tryd.underlying110
  a213 := Tryd.isAgg110
  z213 := Tryd.sizeOf110
  t232 := Tryd.underlying120
  a232 := Tryd.isAgg120
  z232 := Tryd.sizeOf120
  v232 := Tryd.zeroValue120
  t233 := Tryd.underlying121
  a233 := Tryd.isAgg121
  z233 := Tryd.sizeOf121
  v233 := Tryd.zeroValue121
  g17 := by kernel_rfl
  g18 := by kernel_rfl
  g19 := by kernel_rfl
  i0 := by kernel_rfl
  i2 := by kernel_rfl
  i3 := by kernel_rfl
  i4 := by kernel_rfl
  i5 := by kernel_rfl
  i9 := by kernel_rfl
  i20 := by kernel_rfl
  i37 := by kernel_rfl
  i46 := by kernel_rfl
  i51 := by kernel_rfl
  i53 := by kernel_rfl
  i171 := by kernel_rfl
  i173 := by kernel_rfl
  i212 := by kernel_rfl
  i232 := by kernel_rfl
  i233 := by kernel_rfl
  m17 := by kernel_rfl
  m18 := by kernel_rfl
  m19 := by kernel_rfl }
open Go.RowKit Go.Sort Go.Lib in
theorem Tryd.strconv_Itoa (n : Int) (h0 : -9223372036854775808 ≤ n) (h1 : n ≤ 9223372036854775807) (w : World) (htab : Lib.TabIs Tryd.prog w "internal/strconv.uint64pow10" .u64 Lib.pow10Tab) :
    Calls Tryd.prog 47 #[.int .i64 n] w fun e w' => e = .returned (.string ⟨(Lib.itoa n).toArray⟩) ∧ ∃ k os, w' = grow (w.drewN k) os := Any.strconv_Itoa Tryd.laysM171 n h0 h1 w htab
def Tryd.lays146_ren : Go.Shelf.Ren := ⟨fun | 146 => 50 | 221 => 59 | 268 => 68 | 138 => 69 | 143 => 70 | 195 => 76 | 197 => 77 | 218 => 78 | 219 => 79 | 260 => 86 | 217 => 87 | 225 => 88 | 224 => 89 | 267 => 90 | 266 => 93 | 314 => 94 | n => n, fun | 9 => 9 | 31 => 22 | 3 => 3 | 4 => 4 | 0 => 0 | 105 => 103 | 21 => 21 | 5 => 5 | 46 => 95 | 119 => 114 | 139 => 117 | 138 => 116 | 146 => 118 | 51 => 109 | n => n, fun | 1 => 1 | 3 => 2 | 4 => 3 | n => n⟩
theorem Tryd.lays146 : Go.Proofs.Lays.n146 Tryd.prog Tryd.lays146_ren := {
  mixed := by kernel_rfl
  f138 := Tryd.func69.trans (congrArg some (by kernel_rfl))
  f143 := Tryd.func70.trans (congrArg some (by kernel_rfl))
  f146 := Tryd.func50.trans (congrArg some (by kernel_rfl))
  f195 := Tryd.func76.trans (congrArg some (by kernel_rfl))
  f197 := Tryd.func77.trans (congrArg some (by kernel_rfl))
  f217 := Tryd.func87.trans (congrArg some (by kernel_rfl))
  f218 := Tryd.func78.trans (congrArg some (by kernel_rfl))
  f219 := Tryd.func79.trans (congrArg some (by kernel_rfl))
  f221 := Tryd.func59.trans (congrArg some (by kernel_rfl))
  f224 := Tryd.func89.trans (congrArg some (by kernel_rfl))
  f225 := Tryd.func88.trans (congrArg some (by kernel_rfl))
  f260 := Tryd.func86.trans (congrArg some (by kernel_rfl))
  f266 := Tryd.func93.trans (congrArg some (by kernel_rfl))
  f267 := Tryd.func90.trans (congrArg some (by kernel_rfl))
  f268 := Tryd.func68.trans (congrArg some (by kernel_rfl))
  f314 := Tryd.func94.trans (congrArg some (by kernel_rfl))
  t0 := Tryd.underlying0
  a0 := Tryd.isAgg0
  z0 := Tryd.sizeOf0
  v0 := Tryd.zeroValue0
  t3 := Tryd.underlying3
  a3 := Tryd.isAgg3
  z3 := Tryd.sizeOf3
  v3 := Tryd.zeroValue3
  t4 := Tryd.underlying4
  a4 := Tryd.isAgg4
  z4 := Tryd.sizeOf4
  v4 := Tryd.zeroValue4
  t5 := Tryd.underlying5
  a5 := Tryd.isAgg5
  z5 := Tryd.sizeOf5
  v5 := Tryd.zeroValue5
  t9 := Tryd.underlying9
  a9 := Tryd.isAgg9
  z9 := Tryd.sizeOf9
  v9 := Tryd.zeroValue9
  t21 := Tryd.underlying21
  a21 := Tryd.isAgg21
  z21 := Tryd.sizeOf21
  v21 := Tryd.zeroValue21
  t31 := Tryd.underlying22
  a31 := Tryd.isAgg22
  z31 := Tryd.sizeOf22
  v31 := Tryd.zeroValue22
  t46 := Tryd.underlying95
  a46 := Tryd.isAgg95
  z46 := Tryd.sizeOf95
  v46 := Tryd.zeroValue95
  t51 := Tryd.underlying109
  a51 := Tryd.isAgg109
  z51 := Tryd.sizeOf109
  v51 := Tryd.zeroValue109
  t105 := Tryd.underlying103
  a105 := Tryd.isAgg103
  z105 := Tryd.sizeOf103
  v105 := Tryd.zeroValue103
  t119 := Tryd.underlying114
  a119 := Tryd.isAgg114
  z119 := Tryd.sizeOf114
  t138 := Tryd.underlying116
  a138 := Tryd.isAgg116
  z138 := Tryd.sizeOf116
  v138 := Tryd.zeroValue116
  t139 := Tryd.underlying117
  a139 := Tryd.isAgg117
  z139 := Tryd.sizeOf117
  v139 := Tryd.zeroValue117
  t146 := Tryd.underlying118
  a146 := Tryd.isAgg118
  z146 := Tryd.sizeOf118
  v146 := Tryd.zeroValue118
  g1 := by kernel_rfl
  g3 := by kernel_rfl
  g4 := by kernel_rfl }
open Go.RowKit Go.Lib in
theorem Tryd.strings_Split (s sep : ByteArray) (m : Int) (w : World) (hs : s.size < 4294967281) (hm : w.cell? ⟨1, 0, none⟩ = some (.int .i64 m)) (h1 : 1 ≤ sep.size) :
    Calls Tryd.prog 50 #[.string s, .string sep] w fun e w' =>
      e = .returned (.slice (some ⟨w.heap.size, 0, none⟩) (Lib.countB s sep + 1) (Lib.countB s sep + 1)) ∧ w' = w.alloc (.cells ((Lib.splitB sep 0 (Lib.countB s sep) s).map Value.string).toArray 9) := Any.strings_Split Tryd.lays146 (by kernel_rfl) s sep m w hs hm h1
end Go.Proofs
namespace Go.Ab
open Go.Proofs

theorem arr1 {vs : Array Value} {a : Value} (h : vs.toList = [a]) : vs = #[a] := by rw [← Array.toArray_toList (xs := vs), h]
theorem arr2 {vs : Array Value} {a b : Value} (h : vs.toList = [a, b]) : vs = #[a, b] := by rw [← Array.toArray_toList (xs := vs), h]
theorem self66 (t : TypeId) (h : selfT Tryd.prog t = true) : t = 66 := by
  have hall : ((List.range 135).all fun t => !selfT Tryd.prog t || t == 66) = true := by kernel_rfl
  have hs : Tryd.prog.types.size = 135 := by kernel_rfl
  have h' := h
  unfold selfT at h'
  rw [Bool.and_eq_true, hs] at h'
  have hlt := Nat.le_of_ble_eq_true h'.1
  have := List.all_eq_true.1 hall t (by simp; omega)
  rw [h] at this
  simpa using this
theorem tag66 : tagB (cfg []).P [.oth, .sl 5] 66 = true := by kernel_rfl
theorem rt57 : Tryd.f57.resultTypes = #[] := by kernel_rfl
theorem kinds5 : kinds (cfg []).P 5 = [.int .u8] := by kernel_rfl
/-- A builder, opened. -/
theorem bld_open {C : Cfg} (hk5 : kinds C.P 5 = [.int .u8]) (h66 : ∀ t, selfT C.P t = true → t = 66) {w : World} {fz : Fz} {ρ : Rho} {S : Nat → Prop} {xs : List (List L)} (H : HSim C.P w fz ρ S [.box [.oth, .sl 5] [.slf 0 0, .row 1], .row 5 xs true]) :
    ∃ g p v us, ρ 0 = some (.pointer (some ⟨g, 0, none⟩)) ∧ w.heap[g]? = some (.cells #[p, v] 66 (0, 0)) ∧ (p = .pointer none ∨ p = .pointer (some ⟨g, 0, none⟩)) ∧
      w.ownsRow 0 5 1 v xs.length us ∧ RepLs (Rep C.P w fz ρ) us xs.flatten ∧ (∀ e ∈ xs, Conf C.P 5 e) ∧ sizeT C.P 5 = 1 ∧ (∀ o, ¬ fz g o) ∧ S g ∧ ∀ g', bk v = some g' → g' ≠ g ∧ S g' ∧ ∀ o, ¬ fz g' o := by
  have h0 : BS C.P w fz ρ 0 (.box [.oth, .sl 5] [.slf 0 0, .row 1]) := H.blk 0
  have h1 : BS C.P w fz ρ 1 (.row 5 xs true) := H.blk 1
  obtain ⟨g, us0, t, a1, a2, a3, a4, a5, a6⟩ := h0
  obtain ⟨v, us, c1, c2, c3, c4, c5, c6, c7, c8⟩ := h1
  obtain rfl := h66 _ a6
  rw [hk5] at c2 c6 c7
  match hu : us0.toList, a3 with
  | [p, v'], a3 =>
    obtain rfl := arr2 hu
    obtain ⟨e1, e2, _⟩ := a3
    obtain ⟨v2, e3, e4⟩ := rep_row_inv e2
    rw [c1] at e3
    cases e3
    cases e4
    refine ⟨g, p, v, us, a1, a2, ?_, c2, c3, c4, c6, a5, H.wr 0 _ g (by simp) a1 (.of rfl), fun g' hg' => ⟨fun e => ?_, H.wr 1 _ g' (by simp) c1 (.of hg'), fun o ho => ?_⟩⟩
    · cases e1 with
      | slf _ _ ad _ q1 q2 =>
        rw [a1] at q1
        cases q1
        rcases q2 with rfl | rfl
        · exact .inl rfl
        · right; rw [add_zero']
    · subst e
      exact H.dis 0 1 _ _ g' (by decide) (by simp) (by simp) a1 c1 (.of rfl) (.of hg')
    · have := (c7 g' o hg' ho).1
      cases this
theorem ptr_arg {C : Cfg} {w : World} {fz : Fz} {ρ : Rho} {v : Value} {g : Nat} (h1 : ρ 0 = some (.pointer (some ⟨g, 0, none⟩))) (h : Rep C.P w fz ρ v (.ptr 0 0)) : v = .pointer (some ⟨g, 0, none⟩) := by
  cases h with
  | ptr _ _ a h2 =>
    rw [h1] at h2
    cases h2
    rw [add_zero']
theorem cell_fzk {w w' : World} {fz : Fz} {g : Nat} (hlt : ∀ g o, fz g o → g < w.heap.size) (hn : ∀ o, ¬ fz g o) (hold : ∀ k, k < w.heap.size → k ≠ g → w'.heap[k]? = w.heap[k]?) :
    ∀ g' o v, fz g' o → w.cell? ⟨g', o, none⟩ = some v → w'.cell? ⟨g', o, none⟩ = some v := by
  intro g' o v hz hc
  have hne : g' ≠ g := fun e => hn o (e ▸ hz)
  rw [World.cell?_of_block (w := w) (a := ⟨g', o, none⟩) (hold g' (hlt g' o hz) hne)]
  exact hc
theorem none_rep {C : Cfg} {w : World} {fz : Fz} {ρ ρ' : Rho} {t : TypeId} {us : List Value} {xs : List (List L)} (hc : ∀ e ∈ xs, Conf C.P t e) (h : RepLs (Rep C.P w fz ρ) us xs.flatten) {w' : World}
    (hk : ∀ g o v, fz g o → w.cell? ⟨g, o, none⟩ = some v → w'.cell? ⟨g, o, none⟩ = some v) : RepLs (Rep C.P w' fz ρ') us xs.flatten := by
  refine h.mono fun u l hl hu => ?_
  obtain ⟨e, he, hle⟩ := List.mem_flatten.1 hl
  obtain ⟨kk, hk'⟩ := HasKs.mem (hc e he) l hle
  have h1 : Rep C.P w fz ρ' u l := hu.of_hasK C.P hk'
  exact h1.mono C.P hk (fun _ _ h => h) (by simp [hk'.refs])

/-- The end of a method that has left the buffer. -/
theorem bld_end {C : Cfg} (hk5 : kinds C.P 5 = [.int .u8]) (htag : tagB C.P [.oth, .sl 5] 66 = true) {f : FuncId} {fn : Func} (hf : C.P.funcs[f]? = some fn) (hr : fn.resultTypes = #[]) {w w' : World} {fz : Fz} {ρ : Rho} {S : Nat → Prop} {xs : List (List L)} {g : Nat} {p' v : Value} {us : List Value}
    (hlt : ∀ g o, fz g o → g < w.heap.size) (b1 : ρ 0 = some (.pointer (some ⟨g, 0, none⟩))) (b4 : w.ownsRow 0 5 1 v xs.length us) (b5 : RepLs (Rep C.P w fz ρ) us xs.flatten) (b6 : ∀ e ∈ xs, Conf C.P 5 e) (b7 : sizeT C.P 5 = 1)
    (b8 : ∀ o, ¬ fz g o) (b9 : S g) (b10 : ∀ g', bk v = some g' → g' ≠ g ∧ S g' ∧ ∀ o, ¬ fz g' o)
    (q1 : w'.os = w.os) (q2 : w'.tape = w.tape) (q3 : w'.output = w.output) (q4 : w.heap.size ≤ w'.heap.size) (q5 : ∀ k, k < w.heap.size → k ≠ g → w'.heap[k]? = w.heap[k]?)
    (q6 : w'.heap[g]? = some (.cells #[p', v] 66 (0, 0))) (q7 : p' = .pointer (some ⟨g, 0, none⟩)) : EndOk C f w fz ρ S [.box [.oth, .sl 5] [.slf 0 0, .any], .no] [.any, .lst 5 xs] (.tuple #[]) w' fz := by
  have hk := cell_fzk (w' := w') hlt b8 q5
  refine ⟨⟨q1, q2, q3, q4, fun k hk' hn => q5 k hk' (fun e => hn (.inl (e ▸ b9))), hk, .refl⟩, fun g o h => Nat.lt_of_lt_of_le (hlt g o h) q4, fn, [], [], [], (bk v).toList, [g], hf, rfl, by rw [hr]; rfl, by rw [hr]; rfl, ?_, ?_, ?_⟩
  · rw [hr]
    show BxS C.P w' fz ρ 0 [.box [.oth, .sl 5] [.slf 0 0, .any], .no] [.any, .lst 5 xs] (bk v).toList [g]
    refine ⟨g, #[p', v], 66, (bk v).toList, [], [], b1, q6, ⟨b8, htag⟩, ?_, by simp, rfl, rfl, rfl⟩
    refine ⟨.slf 0 0 ⟨g, 0, none⟩ _ b1 (.inr (by rw [q7, add_zero'])), ?_⟩
    show if false = true then _ else if true = false then _ else _
    rw [if_neg (by decide), if_neg (by decide)]
    refine ⟨xs, [], v, .refl _, rfl, ⟨us, ?_, none_rep b6 b5 hk, b6, by rw [hk5]; decide, by rw [hk5]; exact b7, fun g' o hg' => (b10 g' hg').2.2 o⟩, by simp, rfl⟩
    rw [hk5]
    exact ownsRow_move b4 fun g' hg' => q5 g' (own_bk_lt b4 hg') (b10 g' hg').1
  · cases hbk : bk v with
    | none => simp
    | some g' => simpa using fun e => (b10 g' hbk).1 e.symm
  · intro g' hg'
    have : bk v = some g' := by simpa using hg'
    exact .inl (b10 g' this).2.1

theorem cc_ext {C : Cfg} (hk5 : kinds C.P 5 = [.int .u8]) (h66 : ∀ t, selfT C.P t = true → t = 66) (htag : tagB C.P [.oth, .sl 5] 66 = true) {fn : Func} (hf : C.P.funcs[(57 : Nat)]? = some fn) (hr : fn.resultTypes = #[])
    (c1 : ∀ (b : Nat) (w : World), w.cell? ⟨b, 0, none⟩ = some (.pointer none) → w.shape? b = some (66, 2) → w.frozen? ⟨b, 0, none⟩ = false →
      Calls C.P 57 #[.pointer (some ⟨b, 0, none⟩)] w fun e w' => e = .returned (.tuple #[]) ∧ w' = w.setCell ⟨b, 0, none⟩ (.pointer (some ⟨b, 0, none⟩)))
    (c2 : ∀ (b : Nat) (w : World), w.cell? ⟨b, 0, none⟩ = some (.pointer (some ⟨b, 0, none⟩)) → Calls C.P 57 #[.pointer (some ⟨b, 0, none⟩)] w fun e w' => e = .returned (.tuple #[]) ∧ w' = w) : ExtFor C 57 k_cc.2 := by
  intro aa hp r hs w fz ρ S vs hT H hargs
  simp only [k_cc] at hs
  split at hs
  case h_2 => cases hs
  rename_i xs
  obtain ⟨_, rfl⟩ := xo hs
  obtain ⟨g, p, v, us, b1, b2, b3, b4, b5, b6, b7, b8, b9, b10⟩ := bld_open hk5 h66 H
  have hva : vs = #[.pointer (some ⟨g, 0, none⟩)] := by
    match hv : vs.toList, hargs with
    | [a], hargs => rw [arr1 hv, ptr_arg b1 hargs.1]
  subst hva
  have fin := fun (w' : World) (p' : Value) => bld_end (w' := w') (p' := p') hk5 htag hf hr H.lt b1 b4 b5 b6 b7 b8 b9 b10
  rcases b3 with rfl | rfl
  · have hc0 : w.cell? ⟨g, 0, none⟩ = some (.pointer none) := by rw [Lib.cell_of_heap b2]; rfl
    refine (c1 g w hc0 (by simp [World.shape?, b2]) (Lib.frozen_of_heap b2 0)).mono ?_
    rintro e w' ⟨rfl, rfl⟩
    refine ⟨_, fz, rfl, fin _ (.pointer (some ⟨g, 0, none⟩)) rfl rfl rfl (by simp [World.setCell]) (fun k _ hk => ?_) ?_ rfl⟩
    · simp [World.setCell, Array.getElem?_modify, Ne.symm hk]
    · simp [World.setCell, Array.getElem?_modify, b2]
  · have hc0 : w.cell? ⟨g, 0, none⟩ = some (.pointer (some ⟨g, 0, none⟩)) := by rw [Lib.cell_of_heap b2]; rfl
    refine (c2 g w hc0).mono ?_
    rintro e w' ⟨rfl, rfl⟩
    exact ⟨_, fz, rfl, fin _ _ rfl rfl rfl (Nat.le_refl _) (fun k _ _ => rfl) b2 rfl⟩
theorem cc_holds : Holds k_cc := cc_ext (C := cfg []) kinds5 self66 tag66 Tryd.func57 rt57 (fun b w h1 h2 h3 => cc_fresh b w h1 h2 h3) (fun b w h => cc_used b w h)
end Go.Ab
namespace Go.Ab
open Go.Proofs

theorem bs_end {C : Cfg} (hag : isAggT C.P 9 = false) (hk9 : kinds C.P 9 = [.str]) (htag : tagB C.P [.oth, .sl 5] 66 = true) {f : FuncId} {fn : Func} (hf : C.P.funcs[f]? = some fn) (hr : fn.resultTypes = #[9]) {w w' : World} {fz : Fz} {ρ : Rho} {S : Nat → Prop} {g : Nat} {p v : Value} {s : ByteArray}
    (hlt : ∀ g o, fz g o → g < w.heap.size) (b1 : ρ 0 = some (.pointer (some ⟨g, 0, none⟩))) (hp : p = .pointer none ∨ p = .pointer (some ⟨g, 0, none⟩)) (b8 : ∀ o, ¬ fz g o)
    (q1 : w'.os = w.os) (q2 : w'.tape = w.tape) (q3 : w'.output = w.output) (q4 : w.heap.size ≤ w'.heap.size) (q5 : ∀ k, k < w.heap.size → ¬ S k → w'.heap[k]? = w.heap[k]?)
    (hk : ∀ g o v, fz g o → w.cell? ⟨g, o, none⟩ = some v → w'.cell? ⟨g, o, none⟩ = some v) (q6 : w'.heap[g]? = some (.cells #[p, v] 66 (0, 0))) :
    EndOk C f w fz ρ S [.box [.oth, .sl 5] [.slf 0 0, .any], .no] [.str s, .any, .any] (.string s) w' fz := by
  refine ⟨⟨q1, q2, q3, q4, fun k hk' hn => q5 k hk' (fun h => hn (.inl h)), hk, .refl⟩, fun g o h => Nat.lt_of_lt_of_le (hlt g o h) q4, fn, [.string s], [.string s], [], [], [g], hf, rfl, ?_, ?_, ?_, by simp, by simp⟩
  · rw [hr]
    exact ⟨[.string s], [], rfl, by rw [hk9]; rfl, by rw [hk9]; decide, by rw [hag]; rfl, rfl⟩
  · rw [hr]
    simp only [List.flatMap_cons, List.flatMap_nil, hk9, List.append_nil]
    exact ⟨⟨s, rfl⟩, .str s, rfl⟩
  · rw [hr]
    simp only [List.flatMap_cons, List.flatMap_nil, hk9, List.append_nil]
    show BxS C.P w' fz ρ 0 [.box [.oth, .sl 5] [.slf 0 0, .any], .no] [.any, .any] [] [g]
    refine ⟨g, #[p, v], 66, [], [], [], b1, q6, ⟨b8, htag⟩, ?_, rfl, rfl, rfl, rfl⟩
    refine ⟨.slf 0 0 ⟨g, 0, none⟩ _ b1 (by rw [add_zero']; exact hp), ?_⟩
    show if false = true then _ else if false = false then _ else _
    rw [if_neg (by decide), if_pos rfl]
    rfl
theorem eB_flat (l : List UInt8) : (eB l).flatten = l.map fun b => L.int .u8 b.toNat := by
  unfold eB
  induction l with
  | nil => rfl
  | cons b l ih => rw [List.map_cons, List.flatten_cons, ih]; rfl
theorem bs_ext {C : Cfg} (hag : isAggT C.P 9 = false) (hk9 : kinds C.P 9 = [.str]) (hk5 : kinds C.P 5 = [.int .u8]) (h66 : ∀ t, selfT C.P t = true → t = 66) (htag : tagB C.P [.oth, .sl 5] 66 = true) {fn : Func} (hf : C.P.funcs[(48 : Nat)]? = some fn) (hr : fn.resultTypes = #[9])
    (c1 : ∀ (b g cap : Nat) (p : Value) (cur : Array Value) (l : List UInt8) (w : World), l ≠ [] → w.heap[b]? = some (.cells #[p, .slice (some ⟨g, 0, none⟩) l.length cap] 66 (0, 0)) →
      w.heap[g]? = some (.cells cur 5 (0, 0)) → cap ≠ 0 → l.length ≤ cur.size → l.length ≤ 9223372036854775807 → (∀ (j : Nat) x, l[j]? = some x → w.cell? ((⟨g, 0, none⟩ : Addr).add j) = some (.int .u8 x.toNat)) →
      Calls C.P 48 #[.pointer (some ⟨b, 0, none⟩)] w fun e w' => e = .returned (.string ⟨l.toArray⟩) ∧ w' = w.drew.freeze ⟨g, 0, none⟩ l.length)
    (c2 : ∀ (b : Nat) (p : Value) (w : World), w.heap[b]? = some (.cells #[p, .slice none 0 0] 66 (0, 0)) → Calls C.P 48 #[.pointer (some ⟨b, 0, none⟩)] w fun e w' => e = .returned (.string ⟨#[]⟩) ∧ w' = w.drew)
    (c3 : ∀ (b g : Nat) (p : Value) (cur : Array Value) (w : World), w.heap[b]? = some (.cells #[p, .slice (some ⟨g, 0, none⟩) 0 0] 66 (0, 0)) → w.heap[g]? = some (.cells cur 5 (0, 0)) →
      Calls C.P 48 #[.pointer (some ⟨b, 0, none⟩)] w fun e w' => e = .returned (.string ⟨#[]⟩) ∧ w' = w.drew.alloc (.view ⟨g, 0, none⟩ 5))
    (c4 : ∀ (b g cap : Nat) (p : Value) (w : World), cap ≠ 0 → w.heap[b]? = some (.cells #[p, .slice (some ⟨g, 0, none⟩) 0 cap] 66 (0, 0)) →
      Calls C.P 48 #[.pointer (some ⟨b, 0, none⟩)] w fun e w' => e = .returned (.string ⟨#[]⟩) ∧ w' = w.drew) : ExtFor C 48 k_bs.2 := by
  intro aa hp r hs w fz ρ S vs hT H hargs
  simp only [k_bs] at hs
  split at hs
  case h_2 => cases hs
  rename_i xs
  obtain ⟨hg, rfl⟩ := xo hs
  rw [Bool.and_eq_true] at hg
  obtain ⟨l, rfl⟩ := isBy_of hg.1
  have hlen := Nat.le_of_ble_eq_true hg.2
  have hel : (eB l).length = l.length := by simp [eB]
  rw [hel] at hlen
  rw [dB_e]
  obtain ⟨g, p, v, us, b1, b2, b3, b4, b5, b6, b7, b8, b9, b10⟩ := bld_open hk5 h66 H
  have hva : vs = #[.pointer (some ⟨g, 0, none⟩)] := by
    match hv : vs.toList, hargs with
    | [a], hargs => rw [arr1 hv, ptr_arg b1 hargs.1]
  subst hva
  have fin := fun (w' : World) (s : ByteArray) => bs_end (S := S) (v := v) (w' := w') (s := s) hag hk9 htag hf hr H.lt b1 b3 b8
  have hglt : g < w.heap.size := (Array.getElem?_eq_some_iff.1 b2).1
  have dr : EndOk C 48 w fz ρ S [.box [.oth, .sl 5] [.slf 0 0, .any], .no] [.str (mk []), .any, .any] (.string (mk [])) w.drew fz :=
    fin w.drew (mk []) rfl rfl rfl (Nat.le_refl _) (fun _ _ _ => rfl) (fun _ _ _ _ h => h) b2
  rw [hel] at b4
  rcases id b4 with ⟨hul, ⟨rfl, hn⟩ | ⟨g2, cap, cur, rfl, hbg, hg2, hnc, hcm, hcs, htake⟩⟩
  · obtain rfl : l = [] := List.eq_nil_of_length_eq_zero hn
    refine (c2 g p w b2).mono ?_
    rintro e w' ⟨rfl, rfl⟩
    exact ⟨_, fz, rfl, dr⟩
  · have h10 := b10 g2 rfl
    by_cases hl0 : l = []
    · subst hl0
      by_cases hc : cap = 0
      · subst hc
        refine (c3 g g2 p cur w b2 hg2).mono ?_
        rintro e w' ⟨rfl, rfl⟩
        have hold : ∀ k, k < w.heap.size → (w.drew.alloc (.view ⟨g2, 0, none⟩ 5)).heap[k]? = w.heap[k]? := fun k hk => heap_alloc_old w.drew _ hk
        exact ⟨_, fz, rfl, fin _ (mk []) rfl rfl rfl (by simp) (fun k hk _ => hold k hk) (fz_cell H.lt hold) ((hold g hglt).trans b2)⟩
      · refine (c4 g g2 cap p w hc b2).mono ?_
        rintro e w' ⟨rfl, rfl⟩
        exact ⟨_, fz, rfl, dr⟩
    · have hlp : 0 < l.length := List.length_pos_iff.2 hl0
      refine (c1 g g2 cap p cur l w hl0 b2 hg2 (by omega) (by omega) (by omega) (fun j x hx => ?_)).mono ?_
      · have hfj : (eB l).flatten[j]? = some (L.int .u8 x.toNat) := by rw [eB_flat, List.getElem?_map, hx]; rfl
        obtain ⟨u, hu, hr'⟩ := b5.get j _ hfj
        have hc := b4.cells (g := g2) rfl j u hu
        rw [rep_int hr'] at hc
        exact hc
      · rintro e w' ⟨rfl, rfl⟩
        have hfr : ∀ k, k ≠ g2 → (w.drew.freeze ⟨g2, 0, none⟩ l.length).heap[k]? = w.heap[k]? := by
          intro k hk
          unfold World.freeze
          rw [if_neg (by omega)]
          show (w.heap.modify g2 _)[k]? = _
          rw [Array.getElem?_modify, if_neg (Ne.symm hk)]
        have hsz : (w.drew.freeze ⟨g2, 0, none⟩ l.length).heap.size = w.heap.size := by
          unfold World.freeze
          rw [if_neg (by omega)]
          show (w.heap.modify g2 _).size = _
          simp
        have hos : (w.drew.freeze ⟨g2, 0, none⟩ l.length).os = w.os ∧ (w.drew.freeze ⟨g2, 0, none⟩ l.length).tape = w.tape ∧ (w.drew.freeze ⟨g2, 0, none⟩ l.length).output = w.output := by
          unfold World.freeze
          rw [if_neg (by omega)]
          exact ⟨rfl, rfl, rfl⟩
        exact ⟨_, fz, rfl, fin _ (mk l) hos.1 hos.2.1 hos.2.2 (by omega) (fun k _ hn => hfr k fun e => hn (e ▸ h10.2.1)) (cell_fzk H.lt h10.2.2 fun k _ hk => hfr k hk) ((hfr g (fun e => h10.1 e.symm)).trans b2)⟩
theorem rt48 : Tryd.f48.resultTypes = #[9] := by kernel_rfl
theorem kinds9 : kinds (cfg []).P 9 = [.str] := by kernel_rfl
theorem agg9 : isAggT (cfg []).P 9 = false := by kernel_rfl
theorem bs_holds : Holds k_bs := bs_ext (C := cfg []) agg9 kinds9 kinds5 self66 tag66 Tryd.func48 rt48 (fun b g cap p cur l w h1 h2 h3 h4 h5 h6 h7 => bs_some b g cap p cur l w h1 h2 h3 h4 h5 h6 h7) (fun b p w h => bs_nil b p w h) (fun b g p cur w h1 h2 => bs_noroom b g p cur w h1 h2) (fun b g cap p w h1 h2 => bs_room b g cap p w h1 h2)
end Go.Ab
namespace Go.Ab
open Go.Proofs
/-! (*strings.Builder).WriteString -/
theorem wstr_e (G : Req → R) (s : ByteArray) (xs : List (List L)) : runB (cfg [k_cc]) G (.enter 46 [(.lf (.ptr 0 0)), (.lf (.str (s)))] [(.box [.oth, (.sl 5)] [(.slf (0) (0)), (.row (1))]), (.row 5 xs true)]) =
  (cond (roomN (List.length xs + List.length (bytesOf s)) 1)
   (some [(.int IntKind.i64 ((↑(ByteArray.size s) : Int))), .any, .any, (.lst 5 (xs ++ bytesOf s))])
   none) := by kernel_rfl

/-! internal/stringslite.HasPrefix -/
theorem lhasP_e (G : Req → R) (s0 : ByteArray) (prefix1 : ByteArray) : runB (cfg []) G (.enter 61 [(.lf (.str (s0))), (.lf (.str (prefix1)))] []) =
  (cond (leI (↑(ByteArray.size prefix1) : Int) (↑(ByteArray.size s0) : Int))
   (cond (leI 0 (↑(ByteArray.size prefix1) : Int) && leI (↑(ByteArray.size prefix1) : Int) (↑(ByteArray.size s0) : Int))
    (some [(.bool (bl (ByteArray.extract s0 0 (Int.toNat (↑(ByteArray.size prefix1) : Int))) == bl prefix1))])
    none)
   (some [(.bool (false))])) := by kernel_rfl

/-! codesearch/diff.number -/
noncomputable def number_q5 (s0 : ByteArray) (n4 : Int) (x25 : Int) (x26 : Int) : Req := .point 60 [] (todoAt Tryd.prog 60 5) ⟨[(.lf (.str s0)), an, an, an, (.lf (.int IntKind.i64 n4)), an, an, an, an, an, an, an, an, an, an, an, an, an, an, an, an, an, an, an, an, (.lf (.int IntKind.i64 x25)), (.lf (.int IntKind.i64 x26)), an, an, an, an, an, an, an, an, an, an, an, an, an, an, an, an, an, an, an, an, an, an], []⟩
theorem number_e (G : Req → R) (s0 : ByteArray) : runB (cfg []) G (.enter 60 [(.lf (.str (s0)))] []) =
  (cond (ltI (↑(ByteArray.size s0) : Int) 1)
   (some [(.int IntKind.i64 (0)), (.bool (false))])
   (cond (ltI 9 (↑(ByteArray.size s0) : Int))
    (some [(.int IntKind.i64 (0)), (.bool (false))])
    (cond (ltI 1 (↑(ByteArray.size s0) : Int))
     (cond (ltI 0 (↑(ByteArray.size s0) : Int))
      (cond (byI s0 0 == 48)
       (some [(.int IntKind.i64 (0)), (.bool (false))])
       (G (number_q5 s0 0 ((↑(ByteArray.size s0) : Int)) 0)))
      none)
     (G (number_q5 s0 0 ((↑(ByteArray.size s0) : Int)) 0))))) := by kernel_rfl
theorem number_p5 (G : Req → R) (s0 : ByteArray) (n4 : Int) (x25 : Int) (x26 : Int) : runB (cfg []) G (number_q5 s0 n4 x25 x26) =
  (cond (ltI x26 x25)
   (cond (leI 0 x26 && ltI x26 (↑(ByteArray.size s0) : Int))
    (cond (ltI (byI s0 x26) 48)
     (some [(.int IntKind.i64 (0)), (.bool (false))])
     (cond (leI 0 x26 && ltI x26 (↑(ByteArray.size s0) : Int))
      (cond (ltI 57 (byI s0 x26))
       (some [(.int IntKind.i64 (0)), (.bool (false))])
       (cond (leI 0 x26 && ltI x26 (↑(ByteArray.size s0) : Int))
        (G (number_q5 s0 (wrapI IntKind.i64 (wrapI IntKind.i64 (10 * n4) + wrapI IntKind.i64 (wrapI IntKind.u8 (byI s0 x26 - 48)))) x25 (wrapI IntKind.i64 (x26 + 1))))
        none))
      none))
    none)
   (some [(.int IntKind.i64 (n4)), (.bool (true))])) := by kernel_rfl

/-! codesearch/codesearchref23.digits -/
noncomputable def digits_q2 (n0 : Int) (s3 : ByteArray) : Req := .point 49 [] (todoAt Tryd.prog 49 2) ⟨[(.lf (.int IntKind.i64 n0)), an, an, (.lf (.str s3)), an, an, an, an, an, an, an, an, an, an, an, an, an], []⟩
theorem digits_e (G : Req → R) (n0 : Int) : runB (cfg []) G (.enter 49 [(.lf (.int IntKind.i64 (n0)))] []) =
  (G (digits_q2 n0 (mk []))) := by kernel_rfl
theorem digits_p2 (G : Req → R) (n0 : Int) (s3 : ByteArray) : runB (cfg []) G (digits_q2 n0 s3) =
  (cond (leI (↑(ByteArray.size (ByteArray.mk (List.toArray (List.map (fun c => UInt8.ofNat (Int.toNat (cI 0 c))) [[L.int IntKind.u8 (wrapI IntKind.u8 (wrapI IntKind.i64 (48 + Int.tmod n0 10)))]]))) + ByteArray.size s3) : Int) (IntKind.max IntKind.i64))
   (cond (IntKind.wrap IntKind.i64 (Int.tdiv n0 10) == 0)
    (some [(.str (ByteArray.mk (List.toArray (List.map (fun c => UInt8.ofNat (Int.toNat (cI 0 c))) [[L.int IntKind.u8 (wrapI IntKind.u8 (wrapI IntKind.i64 (48 + Int.tmod n0 10)))]])) ++ s3))])
    (G (digits_q2 (IntKind.wrap IntKind.i64 (Int.tdiv n0 10)) (ByteArray.mk (List.toArray (List.map (fun c => UInt8.ofNat (Int.toNat (cI 0 c))) [[L.int IntKind.u8 (wrapI IntKind.u8 (wrapI IntKind.i64 (48 + Int.tmod n0 10)))]])) ++ s3))))
   none) := by kernel_rfl

/-! codesearch/codesearchref23.line -/
noncomputable def line_q1 (s0 : ByteArray) (at1 : Int) : Req := .point 63 [] (todoAt Tryd.prog 63 1) ⟨[(.lf (.str s0)), (.lf (.int IntKind.i64 at1)), an, an, an, an, an, an, an, an, an, an, an, an, an, an, an, an], []⟩
theorem line_e (G : Req → R) (s0 : ByteArray) (at1 : Int) : runB (cfg []) G (.enter 63 [(.lf (.str (s0))), (.lf (.int IntKind.i64 (at1)))] []) =
  (G (line_q1 s0 at1)) := by kernel_rfl
theorem line_p1 (G : Req → R) (s0 : ByteArray) (at1 : Int) : runB (cfg []) G (line_q1 s0 at1) =
  (cond (ltI at1 (↑(ByteArray.size s0) : Int))
   (cond (leI 0 at1 && ltI at1 (↑(ByteArray.size s0) : Int))
    (cond (byI s0 at1 != 10)
     (G (line_q1 s0 (wrapI IntKind.i64 (at1 + 1))))
     (some [(.int IntKind.i64 (at1))]))
    none)
   (some [(.int IntKind.i64 (at1))])) := by kernel_rfl

/-! codesearch/codesearchref23.number -/
noncomputable def rnum_q3 (s0 : ByteArray) (at1 : Int) (end2 : Int) (n8 : Int) (i9 : Int) : Req := .point 62 [] (todoAt Tryd.prog 62 3) ⟨[(.lf (.str s0)), (.lf (.int IntKind.i64 at1)), (.lf (.int IntKind.u8 end2)), an, an, an, an, an, (.lf (.int IntKind.i64 n8)), (.lf (.int IntKind.i64 i9)), an, an, an, an, an, an, an, an, an, an, an, an, an, an, an, an, an, an, an, an, an, an, an, an, an, an, an, an, an, an, an, an, an, an, an, an, an, an, an, an, an, an, an, an, an, an, an, an, an, an, an, an], []⟩
theorem rnum_e (G : Req → R) (s0 : ByteArray) (at1 : Int) (end2 : Int) : runB (cfg []) G (.enter 62 [(.lf (.str (s0))), (.lf (.int IntKind.i64 (at1))), (.lf (.int IntKind.u8 (end2)))] []) =
  (G (rnum_q3 s0 at1 end2 0 at1)) := by kernel_rfl
theorem rnum_p3 (G : Req → R) (s0 : ByteArray) (at1 : Int) (end2 : Int) (n8 : Int) (i9 : Int) : runB (cfg []) G (rnum_q3 s0 at1 end2 n8 i9) =
  (cond (ltI i9 (↑(ByteArray.size s0) : Int))
   (cond (ltI i9 (wrapI IntKind.i64 (at1 + 9)))
    (cond (leI 0 i9 && ltI i9 (↑(ByteArray.size s0) : Int))
     (cond (leI 48 (byI s0 i9))
      (cond (leI 0 i9 && ltI i9 (↑(ByteArray.size s0) : Int))
       (cond (leI (byI s0 i9) 57)
        (cond (leI 0 i9 && ltI i9 (↑(ByteArray.size s0) : Int))
         (G (rnum_q3 s0 at1 end2 (wrapI IntKind.i64 (wrapI IntKind.i64 (n8 * 10) + wrapI IntKind.i64 (wrapI IntKind.u8 (byI s0 i9 - 48)))) (wrapI IntKind.i64 (i9 + 1))))
         none)
        (cond (i9 == at1)
         (some [(.int IntKind.i64 (0)), (.int IntKind.i64 (-1))])
         (cond (leI (↑(ByteArray.size s0) : Int) i9)
          (some [(.int IntKind.i64 (0)), (.int IntKind.i64 (-1))])
          (cond (leI 0 i9 && ltI i9 (↑(ByteArray.size s0) : Int))
           (cond (byI s0 i9 != end2)
            (some [(.int IntKind.i64 (0)), (.int IntKind.i64 (-1))])
            (some [(.int IntKind.i64 (n8)), (.int IntKind.i64 (wrapI IntKind.i64 (i9 + 1)))]))
           none))))
       none)
      (cond (i9 == at1)
       (some [(.int IntKind.i64 (0)), (.int IntKind.i64 (-1))])
       (cond (leI (↑(ByteArray.size s0) : Int) i9)
        (some [(.int IntKind.i64 (0)), (.int IntKind.i64 (-1))])
        (cond (leI 0 i9 && ltI i9 (↑(ByteArray.size s0) : Int))
         (cond (byI s0 i9 != end2)
          (some [(.int IntKind.i64 (0)), (.int IntKind.i64 (-1))])
          (some [(.int IntKind.i64 (n8)), (.int IntKind.i64 (wrapI IntKind.i64 (i9 + 1)))]))
         none))))
     none)
    (cond (i9 == at1)
     (some [(.int IntKind.i64 (0)), (.int IntKind.i64 (-1))])
     (cond (leI (↑(ByteArray.size s0) : Int) i9)
      (some [(.int IntKind.i64 (0)), (.int IntKind.i64 (-1))])
      (cond (leI 0 i9 && ltI i9 (↑(ByteArray.size s0) : Int))
       (cond (byI s0 i9 != end2)
        (some [(.int IntKind.i64 (0)), (.int IntKind.i64 (-1))])
        (some [(.int IntKind.i64 (n8)), (.int IntKind.i64 (wrapI IntKind.i64 (i9 + 1)))]))
       none))))
   (cond (i9 == at1)
    (some [(.int IntKind.i64 (0)), (.int IntKind.i64 (-1))])
    (cond (leI (↑(ByteArray.size s0) : Int) i9)
     (some [(.int IntKind.i64 (0)), (.int IntKind.i64 (-1))])
     (cond (leI 0 i9 && ltI i9 (↑(ByteArray.size s0) : Int))
      (cond (byI s0 i9 != end2)
       (some [(.int IntKind.i64 (0)), (.int IntKind.i64 (-1))])
       (some [(.int IntKind.i64 (n8)), (.int IntKind.i64 (wrapI IntKind.i64 (i9 + 1)))]))
      none)))) := by kernel_rfl

/-! codesearch/diff.Print -/
noncomputable def dPrint_q3 (x8 : List (List L)) (x9 : Int) (x10 : Int) (h1 : List (List L)) : Req := .point 24 [] (todoAt Tryd.prog 24 3) ⟨[an, an, an, (.lf (.ptr 0 0)), an, an, an, an, (.lf (.lst 46 x8)), (.lf (.int IntKind.i64 x9)), (.lf (.int IntKind.i64 x10)), an, an, an, an, an, an, an, an, an, an, an, an, an, an, an, an, an, an, an, an, an, an, an, an, an, an, an, an, an, an, an, an, an, an, an, an, an], [(.box [.oth, (.sl 5)] [(.slf 0 0), (.row 1)]), (.row 5 h1 true)]⟩
noncomputable def dPrint_q7 (x8 : List (List L)) (x9 : Int) (x10 : Int) (x35 : List (List L)) (x36 : Int) (x37 : Int) (h1 : List (List L)) : Req := .point 24 [] (todoAt Tryd.prog 24 7) ⟨[an, an, an, (.lf (.ptr 0 0)), an, an, an, an, (.lf (.lst 46 x8)), (.lf (.int IntKind.i64 x9)), (.lf (.int IntKind.i64 x10)), an, an, an, an, an, an, an, an, an, an, an, an, an, an, an, an, an, an, an, an, an, an, an, an, (.lf (.lst 9 x35)), (.lf (.int IntKind.i64 x36)), (.lf (.int IntKind.i64 x37)), an, an, an, an, an, an, an, an, an, an], [(.box [.oth, (.sl 5)] [(.slf 0 0), (.row 1)]), (.row 5 h1 true)]⟩
theorem dPrint_e (G : Req → R) (l0 : List (List L)) : runB (cfg [k_ws, k_Itoa, k_bs]) G (.enter 24 [(.lf (.lst 46 l0))] []) =
  (G (dPrint_q3 l0 ((↑(List.length l0) : Int)) 0 [])) := by kernel_rfl
theorem dPrint_p3 (G : Req → R) (x8 : List (List L)) (x9 : Int) (x10 : Int) (h1 : List (List L)) : runB (cfg [k_ws, k_Itoa, k_bs]) G (dPrint_q3 x8 x9 x10 h1) =
  (cond (ltI x10 x9)
   (cond (leI 0 x10 && ltI x10 (↑(List.length x8) : Int))
    (both
     (both
      (cond (leI 0 (cI 0 (atL x8 x10)) && leI (cI 0 (atL x8 x10)) 1000000000000000)
       (cond (leI (↑(1 + ByteArray.size (mk (dig (Int.toNat (cI 0 (atL x8 x10)))))) : Int) (IntKind.max IntKind.i64))
        (cond (leI (↑(ByteArray.size (mk [64] ++ mk (dig (Int.toNat (cI 0 (atL x8 x10))))) + 1) : Int) (IntKind.max IntKind.i64))
         (dupN 1
          (cond (leI 0 (wrapI IntKind.i64 (cI 1 (atL x8 x10) - cI 0 (atL x8 x10))) && leI (wrapI IntKind.i64 (cI 1 (atL x8 x10) - cI 0 (atL x8 x10))) 1000000000000000)
           (cond (leI (↑(ByteArray.size (mk [64] ++ mk (dig (Int.toNat (cI 0 (atL x8 x10)))) ++ mk [32]) + ByteArray.size (mk (dig (Int.toNat (wrapI IntKind.i64 (cI 1 (atL x8 x10) - cI 0 (atL x8 x10))))))) : Int) (IntKind.max IntKind.i64))
            (cond (leI (↑(ByteArray.size (mk [64] ++ mk (dig (Int.toNat (cI 0 (atL x8 x10)))) ++ mk [32] ++ mk (dig (Int.toNat (wrapI IntKind.i64 (cI 1 (atL x8 x10) - cI 0 (atL x8 x10)))))) + 1) : Int) (IntKind.max IntKind.i64))
             (cond (leI 0 (↑(List.length (cX 2 (atL x8 x10))) : Int) && leI (↑(List.length (cX 2 (atL x8 x10))) : Int) 1000000000000000)
              (cond (leI (↑(ByteArray.size (mk [64] ++ mk (dig (Int.toNat (cI 0 (atL x8 x10)))) ++ mk [32] ++ mk (dig (Int.toNat (wrapI IntKind.i64 (cI 1 (atL x8 x10) - cI 0 (atL x8 x10))))) ++ mk [32]) + ByteArray.size (mk (dig (Int.toNat (↑(List.length (cX 2 (atL x8 x10))) : Int))))) : Int) (IntKind.max IntKind.i64))
               (cond (leI (↑(ByteArray.size (mk [64] ++ mk (dig (Int.toNat (cI 0 (atL x8 x10)))) ++ mk [32] ++ mk (dig (Int.toNat (wrapI IntKind.i64 (cI 1 (atL x8 x10) - cI 0 (atL x8 x10))))) ++ mk [32] ++ mk (dig (Int.toNat (↑(List.length (cX 2 (atL x8 x10))) : Int)))) + 1) : Int) (IntKind.max IntKind.i64))
                (cond (isBy h1 && Nat.ble (List.length h1 + ByteArray.size (mk [64] ++ mk (dig (Int.toNat (cI 0 (atL x8 x10)))) ++ mk [32] ++ mk (dig (Int.toNat (wrapI IntKind.i64 (cI 1 (atL x8 x10) - cI 0 (atL x8 x10))))) ++ mk [32] ++ mk (dig (Int.toNat (↑(List.length (cX 2 (atL x8 x10))) : Int))) ++ mk [10])) 100000000000)
                 (G (dPrint_q7 x8 x9 x10 (cX 2 (atL x8 x10)) ((↑(List.length (cX 2 (atL x8 x10))) : Int)) 0 (h1 ++ bytesOf (mk [64] ++ mk (dig (Int.toNat (cI 0 (atL x8 x10)))) ++ mk [32] ++ mk (dig (Int.toNat (wrapI IntKind.i64 (cI 1 (atL x8 x10) - cI 0 (atL x8 x10))))) ++ mk [32] ++ mk (dig (Int.toNat (↑(List.length (cX 2 (atL x8 x10))) : Int))) ++ mk [10]))))
                 none)
                none)
               none)
              none)
             none)
            none)
           none))
         none)
        none)
       none)
      (both
       (both
        (cond (leI 0 (cI 0 (atL x8 x10)) && leI (cI 0 (atL x8 x10)) 1000000000000000)
         (cond (leI (↑(1 + ByteArray.size (mk (dig (Int.toNat (cI 0 (atL x8 x10)))))) : Int) (IntKind.max IntKind.i64))
          (cond (leI (↑(ByteArray.size (mk [64] ++ mk (dig (Int.toNat (cI 0 (atL x8 x10))))) + 1) : Int) (IntKind.max IntKind.i64))
           (dupN 1
            (cond (leI 0 (wrapI IntKind.i64 (cI 1 (atL x8 x10) - cI 0 (atL x8 x10))) && leI (wrapI IntKind.i64 (cI 1 (atL x8 x10) - cI 0 (atL x8 x10))) 1000000000000000)
             (cond (leI (↑(ByteArray.size (mk [64] ++ mk (dig (Int.toNat (cI 0 (atL x8 x10)))) ++ mk [32]) + ByteArray.size (mk (dig (Int.toNat (wrapI IntKind.i64 (cI 1 (atL x8 x10) - cI 0 (atL x8 x10))))))) : Int) (IntKind.max IntKind.i64))
              (cond (leI (↑(ByteArray.size (mk [64] ++ mk (dig (Int.toNat (cI 0 (atL x8 x10)))) ++ mk [32] ++ mk (dig (Int.toNat (wrapI IntKind.i64 (cI 1 (atL x8 x10) - cI 0 (atL x8 x10)))))) + 1) : Int) (IntKind.max IntKind.i64))
               (cond (leI 0 (↑(List.length (cX 2 (atL x8 x10))) : Int) && leI (↑(List.length (cX 2 (atL x8 x10))) : Int) 1000000000000000)
                (cond (leI (↑(ByteArray.size (mk [64] ++ mk (dig (Int.toNat (cI 0 (atL x8 x10)))) ++ mk [32] ++ mk (dig (Int.toNat (wrapI IntKind.i64 (cI 1 (atL x8 x10) - cI 0 (atL x8 x10))))) ++ mk [32]) + ByteArray.size (mk (dig (Int.toNat (↑(List.length (cX 2 (atL x8 x10))) : Int))))) : Int) (IntKind.max IntKind.i64))
                 (cond (leI (↑(ByteArray.size (mk [64] ++ mk (dig (Int.toNat (cI 0 (atL x8 x10)))) ++ mk [32] ++ mk (dig (Int.toNat (wrapI IntKind.i64 (cI 1 (atL x8 x10) - cI 0 (atL x8 x10))))) ++ mk [32] ++ mk (dig (Int.toNat (↑(List.length (cX 2 (atL x8 x10))) : Int)))) + 1) : Int) (IntKind.max IntKind.i64))
                  (cond (isBy h1 && Nat.ble (List.length h1 + ByteArray.size (mk [64] ++ mk (dig (Int.toNat (cI 0 (atL x8 x10)))) ++ mk [32] ++ mk (dig (Int.toNat (wrapI IntKind.i64 (cI 1 (atL x8 x10) - cI 0 (atL x8 x10))))) ++ mk [32] ++ mk (dig (Int.toNat (↑(List.length (cX 2 (atL x8 x10))) : Int))) ++ mk [10])) 100000000000)
                   (G (dPrint_q7 x8 x9 x10 (cX 2 (atL x8 x10)) ((↑(List.length (cX 2 (atL x8 x10))) : Int)) 0 (h1 ++ bytesOf (mk [64] ++ mk (dig (Int.toNat (cI 0 (atL x8 x10)))) ++ mk [32] ++ mk (dig (Int.toNat (wrapI IntKind.i64 (cI 1 (atL x8 x10) - cI 0 (atL x8 x10))))) ++ mk [32] ++ mk (dig (Int.toNat (↑(List.length (cX 2 (atL x8 x10))) : Int))) ++ mk [10]))))
                   none)
                  none)
                 none)
                none)
               none)
              none)
             none))
           none)
          none)
         none)
        (both
         (both
          (cond (leI 0 (cI 0 (atL x8 x10)) && leI (cI 0 (atL x8 x10)) 1000000000000000)
           (cond (leI (↑(1 + ByteArray.size (mk (dig (Int.toNat (cI 0 (atL x8 x10)))))) : Int) (IntKind.max IntKind.i64))
            (cond (leI (↑(ByteArray.size (mk [64] ++ mk (dig (Int.toNat (cI 0 (atL x8 x10))))) + 1) : Int) (IntKind.max IntKind.i64))
             (dupN 1
              (cond (leI 0 (wrapI IntKind.i64 (cI 1 (atL x8 x10) - cI 0 (atL x8 x10))) && leI (wrapI IntKind.i64 (cI 1 (atL x8 x10) - cI 0 (atL x8 x10))) 1000000000000000)
               (cond (leI (↑(ByteArray.size (mk [64] ++ mk (dig (Int.toNat (cI 0 (atL x8 x10)))) ++ mk [32]) + ByteArray.size (mk (dig (Int.toNat (wrapI IntKind.i64 (cI 1 (atL x8 x10) - cI 0 (atL x8 x10))))))) : Int) (IntKind.max IntKind.i64))
                (cond (leI (↑(ByteArray.size (mk [64] ++ mk (dig (Int.toNat (cI 0 (atL x8 x10)))) ++ mk [32] ++ mk (dig (Int.toNat (wrapI IntKind.i64 (cI 1 (atL x8 x10) - cI 0 (atL x8 x10)))))) + 1) : Int) (IntKind.max IntKind.i64))
                 (cond (leI 0 (↑(List.length (cX 2 (atL x8 x10))) : Int) && leI (↑(List.length (cX 2 (atL x8 x10))) : Int) 1000000000000000)
                  (cond (leI (↑(ByteArray.size (mk [64] ++ mk (dig (Int.toNat (cI 0 (atL x8 x10)))) ++ mk [32] ++ mk (dig (Int.toNat (wrapI IntKind.i64 (cI 1 (atL x8 x10) - cI 0 (atL x8 x10))))) ++ mk [32]) + ByteArray.size (mk (dig (Int.toNat (↑(List.length (cX 2 (atL x8 x10))) : Int))))) : Int) (IntKind.max IntKind.i64))
                   (cond (leI (↑(ByteArray.size (mk [64] ++ mk (dig (Int.toNat (cI 0 (atL x8 x10)))) ++ mk [32] ++ mk (dig (Int.toNat (wrapI IntKind.i64 (cI 1 (atL x8 x10) - cI 0 (atL x8 x10))))) ++ mk [32] ++ mk (dig (Int.toNat (↑(List.length (cX 2 (atL x8 x10))) : Int)))) + 1) : Int) (IntKind.max IntKind.i64))
                    (cond (isBy h1 && Nat.ble (List.length h1 + ByteArray.size (mk [64] ++ mk (dig (Int.toNat (cI 0 (atL x8 x10)))) ++ mk [32] ++ mk (dig (Int.toNat (wrapI IntKind.i64 (cI 1 (atL x8 x10) - cI 0 (atL x8 x10))))) ++ mk [32] ++ mk (dig (Int.toNat (↑(List.length (cX 2 (atL x8 x10))) : Int))) ++ mk [10])) 100000000000)
                     (G (dPrint_q7 x8 x9 x10 (cX 2 (atL x8 x10)) ((↑(List.length (cX 2 (atL x8 x10))) : Int)) 0 (h1 ++ bytesOf (mk [64] ++ mk (dig (Int.toNat (cI 0 (atL x8 x10)))) ++ mk [32] ++ mk (dig (Int.toNat (wrapI IntKind.i64 (cI 1 (atL x8 x10) - cI 0 (atL x8 x10))))) ++ mk [32] ++ mk (dig (Int.toNat (↑(List.length (cX 2 (atL x8 x10))) : Int))) ++ mk [10]))))
                     none)
                    none)
                   none)
                  none)
                 none)
                none)
               none))
             none)
            none)
           none)
          (cond (leI 0 (cI 0 (atL x8 x10)) && leI (cI 0 (atL x8 x10)) 1000000000000000)
           (cond (leI (↑(1 + ByteArray.size (mk (dig (Int.toNat (cI 0 (atL x8 x10)))))) : Int) (IntKind.max IntKind.i64))
            (cond (leI (↑(ByteArray.size (mk [64] ++ mk (dig (Int.toNat (cI 0 (atL x8 x10))))) + 1) : Int) (IntKind.max IntKind.i64))
             (cond (leI 0 (wrapI IntKind.i64 (cI 1 (atL x8 x10) - cI 0 (atL x8 x10))) && leI (wrapI IntKind.i64 (cI 1 (atL x8 x10) - cI 0 (atL x8 x10))) 1000000000000000)
              (cond (leI (↑(ByteArray.size (mk [64] ++ mk (dig (Int.toNat (cI 0 (atL x8 x10)))) ++ mk [32]) + ByteArray.size (mk (dig (Int.toNat (wrapI IntKind.i64 (cI 1 (atL x8 x10) - cI 0 (atL x8 x10))))))) : Int) (IntKind.max IntKind.i64))
               (cond (leI (↑(ByteArray.size (mk [64] ++ mk (dig (Int.toNat (cI 0 (atL x8 x10)))) ++ mk [32] ++ mk (dig (Int.toNat (wrapI IntKind.i64 (cI 1 (atL x8 x10) - cI 0 (atL x8 x10)))))) + 1) : Int) (IntKind.max IntKind.i64))
                (cond (leI 0 (↑(List.length (cX 2 (atL x8 x10))) : Int) && leI (↑(List.length (cX 2 (atL x8 x10))) : Int) 1000000000000000)
                 (cond (leI (↑(ByteArray.size (mk [64] ++ mk (dig (Int.toNat (cI 0 (atL x8 x10)))) ++ mk [32] ++ mk (dig (Int.toNat (wrapI IntKind.i64 (cI 1 (atL x8 x10) - cI 0 (atL x8 x10))))) ++ mk [32]) + ByteArray.size (mk (dig (Int.toNat (↑(List.length (cX 2 (atL x8 x10))) : Int))))) : Int) (IntKind.max IntKind.i64))
                  (cond (leI (↑(ByteArray.size (mk [64] ++ mk (dig (Int.toNat (cI 0 (atL x8 x10)))) ++ mk [32] ++ mk (dig (Int.toNat (wrapI IntKind.i64 (cI 1 (atL x8 x10) - cI 0 (atL x8 x10))))) ++ mk [32] ++ mk (dig (Int.toNat (↑(List.length (cX 2 (atL x8 x10))) : Int)))) + 1) : Int) (IntKind.max IntKind.i64))
                   (cond (isBy h1 && Nat.ble (List.length h1 + ByteArray.size (mk [64] ++ mk (dig (Int.toNat (cI 0 (atL x8 x10)))) ++ mk [32] ++ mk (dig (Int.toNat (wrapI IntKind.i64 (cI 1 (atL x8 x10) - cI 0 (atL x8 x10))))) ++ mk [32] ++ mk (dig (Int.toNat (↑(List.length (cX 2 (atL x8 x10))) : Int))) ++ mk [10])) 100000000000)
                    (G (dPrint_q7 x8 x9 x10 (cX 2 (atL x8 x10)) ((↑(List.length (cX 2 (atL x8 x10))) : Int)) 0 (h1 ++ bytesOf (mk [64] ++ mk (dig (Int.toNat (cI 0 (atL x8 x10)))) ++ mk [32] ++ mk (dig (Int.toNat (wrapI IntKind.i64 (cI 1 (atL x8 x10) - cI 0 (atL x8 x10))))) ++ mk [32] ++ mk (dig (Int.toNat (↑(List.length (cX 2 (atL x8 x10))) : Int))) ++ mk [10]))))
                    none)
                   none)
                  none)
                 none)
                none)
               none)
              none)
             none)
            none)
           none))
         (dupN 1
          (cond (leI 0 (cI 0 (atL x8 x10)) && leI (cI 0 (atL x8 x10)) 1000000000000000)
           (cond (leI (↑(1 + ByteArray.size (mk (dig (Int.toNat (cI 0 (atL x8 x10)))))) : Int) (IntKind.max IntKind.i64))
            (cond (leI (↑(ByteArray.size (mk [64] ++ mk (dig (Int.toNat (cI 0 (atL x8 x10))))) + 1) : Int) (IntKind.max IntKind.i64))
             (cond (leI 0 (wrapI IntKind.i64 (cI 1 (atL x8 x10) - cI 0 (atL x8 x10))) && leI (wrapI IntKind.i64 (cI 1 (atL x8 x10) - cI 0 (atL x8 x10))) 1000000000000000)
              (cond (leI (↑(ByteArray.size (mk [64] ++ mk (dig (Int.toNat (cI 0 (atL x8 x10)))) ++ mk [32]) + ByteArray.size (mk (dig (Int.toNat (wrapI IntKind.i64 (cI 1 (atL x8 x10) - cI 0 (atL x8 x10))))))) : Int) (IntKind.max IntKind.i64))
               (cond (leI (↑(ByteArray.size (mk [64] ++ mk (dig (Int.toNat (cI 0 (atL x8 x10)))) ++ mk [32] ++ mk (dig (Int.toNat (wrapI IntKind.i64 (cI 1 (atL x8 x10) - cI 0 (atL x8 x10)))))) + 1) : Int) (IntKind.max IntKind.i64))
                (cond (leI 0 (↑(List.length (cX 2 (atL x8 x10))) : Int) && leI (↑(List.length (cX 2 (atL x8 x10))) : Int) 1000000000000000)
                 (cond (leI (↑(ByteArray.size (mk [64] ++ mk (dig (Int.toNat (cI 0 (atL x8 x10)))) ++ mk [32] ++ mk (dig (Int.toNat (wrapI IntKind.i64 (cI 1 (atL x8 x10) - cI 0 (atL x8 x10))))) ++ mk [32]) + ByteArray.size (mk (dig (Int.toNat (↑(List.length (cX 2 (atL x8 x10))) : Int))))) : Int) (IntKind.max IntKind.i64))
                  (cond (leI (↑(ByteArray.size (mk [64] ++ mk (dig (Int.toNat (cI 0 (atL x8 x10)))) ++ mk [32] ++ mk (dig (Int.toNat (wrapI IntKind.i64 (cI 1 (atL x8 x10) - cI 0 (atL x8 x10))))) ++ mk [32] ++ mk (dig (Int.toNat (↑(List.length (cX 2 (atL x8 x10))) : Int)))) + 1) : Int) (IntKind.max IntKind.i64))
                   (cond (isBy h1 && Nat.ble (List.length h1 + ByteArray.size (mk [64] ++ mk (dig (Int.toNat (cI 0 (atL x8 x10)))) ++ mk [32] ++ mk (dig (Int.toNat (wrapI IntKind.i64 (cI 1 (atL x8 x10) - cI 0 (atL x8 x10))))) ++ mk [32] ++ mk (dig (Int.toNat (↑(List.length (cX 2 (atL x8 x10))) : Int))) ++ mk [10])) 100000000000)
                    (G (dPrint_q7 x8 x9 x10 (cX 2 (atL x8 x10)) ((↑(List.length (cX 2 (atL x8 x10))) : Int)) 0 (h1 ++ bytesOf (mk [64] ++ mk (dig (Int.toNat (cI 0 (atL x8 x10)))) ++ mk [32] ++ mk (dig (Int.toNat (wrapI IntKind.i64 (cI 1 (atL x8 x10) - cI 0 (atL x8 x10))))) ++ mk [32] ++ mk (dig (Int.toNat (↑(List.length (cX 2 (atL x8 x10))) : Int))) ++ mk [10]))))
                    none)
                   none)
                  none)
                 none)
                none)
               none)
              none)
             none)
            none)
           none))))
       (both
        (both
         (cond (leI 0 (cI 0 (atL x8 x10)) && leI (cI 0 (atL x8 x10)) 1000000000000000)
          (cond (leI (↑(1 + ByteArray.size (mk (dig (Int.toNat (cI 0 (atL x8 x10)))))) : Int) (IntKind.max IntKind.i64))
           (cond (leI (↑(ByteArray.size (mk [64] ++ mk (dig (Int.toNat (cI 0 (atL x8 x10))))) + 1) : Int) (IntKind.max IntKind.i64))
            (dupN 1
             (cond (leI 0 (wrapI IntKind.i64 (cI 1 (atL x8 x10) - cI 0 (atL x8 x10))) && leI (wrapI IntKind.i64 (cI 1 (atL x8 x10) - cI 0 (atL x8 x10))) 1000000000000000)
              (cond (leI (↑(ByteArray.size (mk [64] ++ mk (dig (Int.toNat (cI 0 (atL x8 x10)))) ++ mk [32]) + ByteArray.size (mk (dig (Int.toNat (wrapI IntKind.i64 (cI 1 (atL x8 x10) - cI 0 (atL x8 x10))))))) : Int) (IntKind.max IntKind.i64))
               (cond (leI (↑(ByteArray.size (mk [64] ++ mk (dig (Int.toNat (cI 0 (atL x8 x10)))) ++ mk [32] ++ mk (dig (Int.toNat (wrapI IntKind.i64 (cI 1 (atL x8 x10) - cI 0 (atL x8 x10)))))) + 1) : Int) (IntKind.max IntKind.i64))
                (cond (leI 0 (↑(List.length (cX 2 (atL x8 x10))) : Int) && leI (↑(List.length (cX 2 (atL x8 x10))) : Int) 1000000000000000)
                 (cond (leI (↑(ByteArray.size (mk [64] ++ mk (dig (Int.toNat (cI 0 (atL x8 x10)))) ++ mk [32] ++ mk (dig (Int.toNat (wrapI IntKind.i64 (cI 1 (atL x8 x10) - cI 0 (atL x8 x10))))) ++ mk [32]) + ByteArray.size (mk (dig (Int.toNat (↑(List.length (cX 2 (atL x8 x10))) : Int))))) : Int) (IntKind.max IntKind.i64))
                  (cond (leI (↑(ByteArray.size (mk [64] ++ mk (dig (Int.toNat (cI 0 (atL x8 x10)))) ++ mk [32] ++ mk (dig (Int.toNat (wrapI IntKind.i64 (cI 1 (atL x8 x10) - cI 0 (atL x8 x10))))) ++ mk [32] ++ mk (dig (Int.toNat (↑(List.length (cX 2 (atL x8 x10))) : Int)))) + 1) : Int) (IntKind.max IntKind.i64))
                   (cond (isBy h1 && Nat.ble (List.length h1 + ByteArray.size (mk [64] ++ mk (dig (Int.toNat (cI 0 (atL x8 x10)))) ++ mk [32] ++ mk (dig (Int.toNat (wrapI IntKind.i64 (cI 1 (atL x8 x10) - cI 0 (atL x8 x10))))) ++ mk [32] ++ mk (dig (Int.toNat (↑(List.length (cX 2 (atL x8 x10))) : Int))) ++ mk [10])) 100000000000)
                    (G (dPrint_q7 x8 x9 x10 (cX 2 (atL x8 x10)) ((↑(List.length (cX 2 (atL x8 x10))) : Int)) 0 (h1 ++ bytesOf (mk [64] ++ mk (dig (Int.toNat (cI 0 (atL x8 x10)))) ++ mk [32] ++ mk (dig (Int.toNat (wrapI IntKind.i64 (cI 1 (atL x8 x10) - cI 0 (atL x8 x10))))) ++ mk [32] ++ mk (dig (Int.toNat (↑(List.length (cX 2 (atL x8 x10))) : Int))) ++ mk [10]))))
                    none)
                   none)
                  none)
                 none)
                none)
               none)
              none))
            none)
           none)
          none)
         (both
          (both
           (cond (leI 0 (cI 0 (atL x8 x10)) && leI (cI 0 (atL x8 x10)) 1000000000000000)
            (cond (leI (↑(1 + ByteArray.size (mk (dig (Int.toNat (cI 0 (atL x8 x10)))))) : Int) (IntKind.max IntKind.i64))
             (cond (leI (↑(ByteArray.size (mk [64] ++ mk (dig (Int.toNat (cI 0 (atL x8 x10))))) + 1) : Int) (IntKind.max IntKind.i64))
              (dupN 1
               (cond (leI 0 (wrapI IntKind.i64 (cI 1 (atL x8 x10) - cI 0 (atL x8 x10))) && leI (wrapI IntKind.i64 (cI 1 (atL x8 x10) - cI 0 (atL x8 x10))) 1000000000000000)
                (cond (leI (↑(ByteArray.size (mk [64] ++ mk (dig (Int.toNat (cI 0 (atL x8 x10)))) ++ mk [32]) + ByteArray.size (mk (dig (Int.toNat (wrapI IntKind.i64 (cI 1 (atL x8 x10) - cI 0 (atL x8 x10))))))) : Int) (IntKind.max IntKind.i64))
                 (cond (leI (↑(ByteArray.size (mk [64] ++ mk (dig (Int.toNat (cI 0 (atL x8 x10)))) ++ mk [32] ++ mk (dig (Int.toNat (wrapI IntKind.i64 (cI 1 (atL x8 x10) - cI 0 (atL x8 x10)))))) + 1) : Int) (IntKind.max IntKind.i64))
                  (cond (leI 0 (↑(List.length (cX 2 (atL x8 x10))) : Int) && leI (↑(List.length (cX 2 (atL x8 x10))) : Int) 1000000000000000)
                   (cond (leI (↑(ByteArray.size (mk [64] ++ mk (dig (Int.toNat (cI 0 (atL x8 x10)))) ++ mk [32] ++ mk (dig (Int.toNat (wrapI IntKind.i64 (cI 1 (atL x8 x10) - cI 0 (atL x8 x10))))) ++ mk [32]) + ByteArray.size (mk (dig (Int.toNat (↑(List.length (cX 2 (atL x8 x10))) : Int))))) : Int) (IntKind.max IntKind.i64))
                    (cond (leI (↑(ByteArray.size (mk [64] ++ mk (dig (Int.toNat (cI 0 (atL x8 x10)))) ++ mk [32] ++ mk (dig (Int.toNat (wrapI IntKind.i64 (cI 1 (atL x8 x10) - cI 0 (atL x8 x10))))) ++ mk [32] ++ mk (dig (Int.toNat (↑(List.length (cX 2 (atL x8 x10))) : Int)))) + 1) : Int) (IntKind.max IntKind.i64))
                     (cond (isBy h1 && Nat.ble (List.length h1 + ByteArray.size (mk [64] ++ mk (dig (Int.toNat (cI 0 (atL x8 x10)))) ++ mk [32] ++ mk (dig (Int.toNat (wrapI IntKind.i64 (cI 1 (atL x8 x10) - cI 0 (atL x8 x10))))) ++ mk [32] ++ mk (dig (Int.toNat (↑(List.length (cX 2 (atL x8 x10))) : Int))) ++ mk [10])) 100000000000)
                      (G (dPrint_q7 x8 x9 x10 (cX 2 (atL x8 x10)) ((↑(List.length (cX 2 (atL x8 x10))) : Int)) 0 (h1 ++ bytesOf (mk [64] ++ mk (dig (Int.toNat (cI 0 (atL x8 x10)))) ++ mk [32] ++ mk (dig (Int.toNat (wrapI IntKind.i64 (cI 1 (atL x8 x10) - cI 0 (atL x8 x10))))) ++ mk [32] ++ mk (dig (Int.toNat (↑(List.length (cX 2 (atL x8 x10))) : Int))) ++ mk [10]))))
                      none)
                     none)
                    none)
                   none)
                  none)
                 none)
                none))
              none)
             none)
            none)
           (cond (leI 0 (cI 0 (atL x8 x10)) && leI (cI 0 (atL x8 x10)) 1000000000000000)
            (cond (leI (↑(1 + ByteArray.size (mk (dig (Int.toNat (cI 0 (atL x8 x10)))))) : Int) (IntKind.max IntKind.i64))
             (cond (leI (↑(ByteArray.size (mk [64] ++ mk (dig (Int.toNat (cI 0 (atL x8 x10))))) + 1) : Int) (IntKind.max IntKind.i64))
              (cond (leI 0 (wrapI IntKind.i64 (cI 1 (atL x8 x10) - cI 0 (atL x8 x10))) && leI (wrapI IntKind.i64 (cI 1 (atL x8 x10) - cI 0 (atL x8 x10))) 1000000000000000)
               (cond (leI (↑(ByteArray.size (mk [64] ++ mk (dig (Int.toNat (cI 0 (atL x8 x10)))) ++ mk [32]) + ByteArray.size (mk (dig (Int.toNat (wrapI IntKind.i64 (cI 1 (atL x8 x10) - cI 0 (atL x8 x10))))))) : Int) (IntKind.max IntKind.i64))
                (cond (leI (↑(ByteArray.size (mk [64] ++ mk (dig (Int.toNat (cI 0 (atL x8 x10)))) ++ mk [32] ++ mk (dig (Int.toNat (wrapI IntKind.i64 (cI 1 (atL x8 x10) - cI 0 (atL x8 x10)))))) + 1) : Int) (IntKind.max IntKind.i64))
                 (cond (leI 0 (↑(List.length (cX 2 (atL x8 x10))) : Int) && leI (↑(List.length (cX 2 (atL x8 x10))) : Int) 1000000000000000)
                  (cond (leI (↑(ByteArray.size (mk [64] ++ mk (dig (Int.toNat (cI 0 (atL x8 x10)))) ++ mk [32] ++ mk (dig (Int.toNat (wrapI IntKind.i64 (cI 1 (atL x8 x10) - cI 0 (atL x8 x10))))) ++ mk [32]) + ByteArray.size (mk (dig (Int.toNat (↑(List.length (cX 2 (atL x8 x10))) : Int))))) : Int) (IntKind.max IntKind.i64))
                   (cond (leI (↑(ByteArray.size (mk [64] ++ mk (dig (Int.toNat (cI 0 (atL x8 x10)))) ++ mk [32] ++ mk (dig (Int.toNat (wrapI IntKind.i64 (cI 1 (atL x8 x10) - cI 0 (atL x8 x10))))) ++ mk [32] ++ mk (dig (Int.toNat (↑(List.length (cX 2 (atL x8 x10))) : Int)))) + 1) : Int) (IntKind.max IntKind.i64))
                    (cond (isBy h1 && Nat.ble (List.length h1 + ByteArray.size (mk [64] ++ mk (dig (Int.toNat (cI 0 (atL x8 x10)))) ++ mk [32] ++ mk (dig (Int.toNat (wrapI IntKind.i64 (cI 1 (atL x8 x10) - cI 0 (atL x8 x10))))) ++ mk [32] ++ mk (dig (Int.toNat (↑(List.length (cX 2 (atL x8 x10))) : Int))) ++ mk [10])) 100000000000)
                     (G (dPrint_q7 x8 x9 x10 (cX 2 (atL x8 x10)) ((↑(List.length (cX 2 (atL x8 x10))) : Int)) 0 (h1 ++ bytesOf (mk [64] ++ mk (dig (Int.toNat (cI 0 (atL x8 x10)))) ++ mk [32] ++ mk (dig (Int.toNat (wrapI IntKind.i64 (cI 1 (atL x8 x10) - cI 0 (atL x8 x10))))) ++ mk [32] ++ mk (dig (Int.toNat (↑(List.length (cX 2 (atL x8 x10))) : Int))) ++ mk [10]))))
                     none)
                    none)
                   none)
                  none)
                 none)
                none)
               none)
              none)
             none)
            none))
          (dupN 1
           (cond (leI 0 (cI 0 (atL x8 x10)) && leI (cI 0 (atL x8 x10)) 1000000000000000)
            (cond (leI (↑(1 + ByteArray.size (mk (dig (Int.toNat (cI 0 (atL x8 x10)))))) : Int) (IntKind.max IntKind.i64))
             (cond (leI (↑(ByteArray.size (mk [64] ++ mk (dig (Int.toNat (cI 0 (atL x8 x10))))) + 1) : Int) (IntKind.max IntKind.i64))
              (cond (leI 0 (wrapI IntKind.i64 (cI 1 (atL x8 x10) - cI 0 (atL x8 x10))) && leI (wrapI IntKind.i64 (cI 1 (atL x8 x10) - cI 0 (atL x8 x10))) 1000000000000000)
               (cond (leI (↑(ByteArray.size (mk [64] ++ mk (dig (Int.toNat (cI 0 (atL x8 x10)))) ++ mk [32]) + ByteArray.size (mk (dig (Int.toNat (wrapI IntKind.i64 (cI 1 (atL x8 x10) - cI 0 (atL x8 x10))))))) : Int) (IntKind.max IntKind.i64))
                (cond (leI (↑(ByteArray.size (mk [64] ++ mk (dig (Int.toNat (cI 0 (atL x8 x10)))) ++ mk [32] ++ mk (dig (Int.toNat (wrapI IntKind.i64 (cI 1 (atL x8 x10) - cI 0 (atL x8 x10)))))) + 1) : Int) (IntKind.max IntKind.i64))
                 (cond (leI 0 (↑(List.length (cX 2 (atL x8 x10))) : Int) && leI (↑(List.length (cX 2 (atL x8 x10))) : Int) 1000000000000000)
                  (cond (leI (↑(ByteArray.size (mk [64] ++ mk (dig (Int.toNat (cI 0 (atL x8 x10)))) ++ mk [32] ++ mk (dig (Int.toNat (wrapI IntKind.i64 (cI 1 (atL x8 x10) - cI 0 (atL x8 x10))))) ++ mk [32]) + ByteArray.size (mk (dig (Int.toNat (↑(List.length (cX 2 (atL x8 x10))) : Int))))) : Int) (IntKind.max IntKind.i64))
                   (cond (leI (↑(ByteArray.size (mk [64] ++ mk (dig (Int.toNat (cI 0 (atL x8 x10)))) ++ mk [32] ++ mk (dig (Int.toNat (wrapI IntKind.i64 (cI 1 (atL x8 x10) - cI 0 (atL x8 x10))))) ++ mk [32] ++ mk (dig (Int.toNat (↑(List.length (cX 2 (atL x8 x10))) : Int)))) + 1) : Int) (IntKind.max IntKind.i64))
                    (cond (isBy h1 && Nat.ble (List.length h1 + ByteArray.size (mk [64] ++ mk (dig (Int.toNat (cI 0 (atL x8 x10)))) ++ mk [32] ++ mk (dig (Int.toNat (wrapI IntKind.i64 (cI 1 (atL x8 x10) - cI 0 (atL x8 x10))))) ++ mk [32] ++ mk (dig (Int.toNat (↑(List.length (cX 2 (atL x8 x10))) : Int))) ++ mk [10])) 100000000000)
                     (G (dPrint_q7 x8 x9 x10 (cX 2 (atL x8 x10)) ((↑(List.length (cX 2 (atL x8 x10))) : Int)) 0 (h1 ++ bytesOf (mk [64] ++ mk (dig (Int.toNat (cI 0 (atL x8 x10)))) ++ mk [32] ++ mk (dig (Int.toNat (wrapI IntKind.i64 (cI 1 (atL x8 x10) - cI 0 (atL x8 x10))))) ++ mk [32] ++ mk (dig (Int.toNat (↑(List.length (cX 2 (atL x8 x10))) : Int))) ++ mk [10]))))
                     none)
                    none)
                   none)
                  none)
                 none)
                none)
               none)
              none)
             none)
            none))))
        (both
         (cond (leI 0 (cI 0 (atL x8 x10)) && leI (cI 0 (atL x8 x10)) 1000000000000000)
          (cond (leI (↑(1 + ByteArray.size (mk (dig (Int.toNat (cI 0 (atL x8 x10)))))) : Int) (IntKind.max IntKind.i64))
           (cond (leI (↑(ByteArray.size (mk [64] ++ mk (dig (Int.toNat (cI 0 (atL x8 x10))))) + 1) : Int) (IntKind.max IntKind.i64))
            (cond (leI 0 (wrapI IntKind.i64 (cI 1 (atL x8 x10) - cI 0 (atL x8 x10))) && leI (wrapI IntKind.i64 (cI 1 (atL x8 x10) - cI 0 (atL x8 x10))) 1000000000000000)
             (cond (leI (↑(ByteArray.size (mk [64] ++ mk (dig (Int.toNat (cI 0 (atL x8 x10)))) ++ mk [32]) + ByteArray.size (mk (dig (Int.toNat (wrapI IntKind.i64 (cI 1 (atL x8 x10) - cI 0 (atL x8 x10))))))) : Int) (IntKind.max IntKind.i64))
              (cond (leI (↑(ByteArray.size (mk [64] ++ mk (dig (Int.toNat (cI 0 (atL x8 x10)))) ++ mk [32] ++ mk (dig (Int.toNat (wrapI IntKind.i64 (cI 1 (atL x8 x10) - cI 0 (atL x8 x10)))))) + 1) : Int) (IntKind.max IntKind.i64))
               (cond (leI 0 (↑(List.length (cX 2 (atL x8 x10))) : Int) && leI (↑(List.length (cX 2 (atL x8 x10))) : Int) 1000000000000000)
                (cond (leI (↑(ByteArray.size (mk [64] ++ mk (dig (Int.toNat (cI 0 (atL x8 x10)))) ++ mk [32] ++ mk (dig (Int.toNat (wrapI IntKind.i64 (cI 1 (atL x8 x10) - cI 0 (atL x8 x10))))) ++ mk [32]) + ByteArray.size (mk (dig (Int.toNat (↑(List.length (cX 2 (atL x8 x10))) : Int))))) : Int) (IntKind.max IntKind.i64))
                 (cond (leI (↑(ByteArray.size (mk [64] ++ mk (dig (Int.toNat (cI 0 (atL x8 x10)))) ++ mk [32] ++ mk (dig (Int.toNat (wrapI IntKind.i64 (cI 1 (atL x8 x10) - cI 0 (atL x8 x10))))) ++ mk [32] ++ mk (dig (Int.toNat (↑(List.length (cX 2 (atL x8 x10))) : Int)))) + 1) : Int) (IntKind.max IntKind.i64))
                  (cond (isBy h1 && Nat.ble (List.length h1 + ByteArray.size (mk [64] ++ mk (dig (Int.toNat (cI 0 (atL x8 x10)))) ++ mk [32] ++ mk (dig (Int.toNat (wrapI IntKind.i64 (cI 1 (atL x8 x10) - cI 0 (atL x8 x10))))) ++ mk [32] ++ mk (dig (Int.toNat (↑(List.length (cX 2 (atL x8 x10))) : Int))) ++ mk [10])) 100000000000)
                   (G (dPrint_q7 x8 x9 x10 (cX 2 (atL x8 x10)) ((↑(List.length (cX 2 (atL x8 x10))) : Int)) 0 (h1 ++ bytesOf (mk [64] ++ mk (dig (Int.toNat (cI 0 (atL x8 x10)))) ++ mk [32] ++ mk (dig (Int.toNat (wrapI IntKind.i64 (cI 1 (atL x8 x10) - cI 0 (atL x8 x10))))) ++ mk [32] ++ mk (dig (Int.toNat (↑(List.length (cX 2 (atL x8 x10))) : Int))) ++ mk [10]))))
                   none)
                  none)
                 none)
                none)
               none)
              none)
             none)
            none)
           none)
          none)
         (dupN 1
          (dupN 1
           (cond (leI 0 (cI 0 (atL x8 x10)) && leI (cI 0 (atL x8 x10)) 1000000000000000)
            (cond (leI (↑(1 + ByteArray.size (mk (dig (Int.toNat (cI 0 (atL x8 x10)))))) : Int) (IntKind.max IntKind.i64))
             (cond (leI (↑(ByteArray.size (mk [64] ++ mk (dig (Int.toNat (cI 0 (atL x8 x10))))) + 1) : Int) (IntKind.max IntKind.i64))
              (cond (leI 0 (wrapI IntKind.i64 (cI 1 (atL x8 x10) - cI 0 (atL x8 x10))) && leI (wrapI IntKind.i64 (cI 1 (atL x8 x10) - cI 0 (atL x8 x10))) 1000000000000000)
               (cond (leI (↑(ByteArray.size (mk [64] ++ mk (dig (Int.toNat (cI 0 (atL x8 x10)))) ++ mk [32]) + ByteArray.size (mk (dig (Int.toNat (wrapI IntKind.i64 (cI 1 (atL x8 x10) - cI 0 (atL x8 x10))))))) : Int) (IntKind.max IntKind.i64))
                (cond (leI (↑(ByteArray.size (mk [64] ++ mk (dig (Int.toNat (cI 0 (atL x8 x10)))) ++ mk [32] ++ mk (dig (Int.toNat (wrapI IntKind.i64 (cI 1 (atL x8 x10) - cI 0 (atL x8 x10)))))) + 1) : Int) (IntKind.max IntKind.i64))
                 (cond (leI 0 (↑(List.length (cX 2 (atL x8 x10))) : Int) && leI (↑(List.length (cX 2 (atL x8 x10))) : Int) 1000000000000000)
                  (cond (leI (↑(ByteArray.size (mk [64] ++ mk (dig (Int.toNat (cI 0 (atL x8 x10)))) ++ mk [32] ++ mk (dig (Int.toNat (wrapI IntKind.i64 (cI 1 (atL x8 x10) - cI 0 (atL x8 x10))))) ++ mk [32]) + ByteArray.size (mk (dig (Int.toNat (↑(List.length (cX 2 (atL x8 x10))) : Int))))) : Int) (IntKind.max IntKind.i64))
                   (cond (leI (↑(ByteArray.size (mk [64] ++ mk (dig (Int.toNat (cI 0 (atL x8 x10)))) ++ mk [32] ++ mk (dig (Int.toNat (wrapI IntKind.i64 (cI 1 (atL x8 x10) - cI 0 (atL x8 x10))))) ++ mk [32] ++ mk (dig (Int.toNat (↑(List.length (cX 2 (atL x8 x10))) : Int)))) + 1) : Int) (IntKind.max IntKind.i64))
                    (cond (isBy h1 && Nat.ble (List.length h1 + ByteArray.size (mk [64] ++ mk (dig (Int.toNat (cI 0 (atL x8 x10)))) ++ mk [32] ++ mk (dig (Int.toNat (wrapI IntKind.i64 (cI 1 (atL x8 x10) - cI 0 (atL x8 x10))))) ++ mk [32] ++ mk (dig (Int.toNat (↑(List.length (cX 2 (atL x8 x10))) : Int))) ++ mk [10])) 100000000000)
                     (G (dPrint_q7 x8 x9 x10 (cX 2 (atL x8 x10)) ((↑(List.length (cX 2 (atL x8 x10))) : Int)) 0 (h1 ++ bytesOf (mk [64] ++ mk (dig (Int.toNat (cI 0 (atL x8 x10)))) ++ mk [32] ++ mk (dig (Int.toNat (wrapI IntKind.i64 (cI 1 (atL x8 x10) - cI 0 (atL x8 x10))))) ++ mk [32] ++ mk (dig (Int.toNat (↑(List.length (cX 2 (atL x8 x10))) : Int))) ++ mk [10]))))
                     none)
                    none)
                   none)
                  none)
                 none)
                none)
               none)
              none)
             none)
            none)))))))
     (both
      (both
       (both
        (cond (leI 0 (cI 0 (atL x8 x10)) && leI (cI 0 (atL x8 x10)) 1000000000000000)
         (cond (leI (↑(1 + ByteArray.size (mk (dig (Int.toNat (cI 0 (atL x8 x10)))))) : Int) (IntKind.max IntKind.i64))
          (cond (leI (↑(ByteArray.size (mk [64] ++ mk (dig (Int.toNat (cI 0 (atL x8 x10))))) + 1) : Int) (IntKind.max IntKind.i64))
           (dupN 1
            (cond (leI 0 (wrapI IntKind.i64 (cI 1 (atL x8 x10) - cI 0 (atL x8 x10))) && leI (wrapI IntKind.i64 (cI 1 (atL x8 x10) - cI 0 (atL x8 x10))) 1000000000000000)
             (cond (leI (↑(ByteArray.size (mk [64] ++ mk (dig (Int.toNat (cI 0 (atL x8 x10)))) ++ mk [32]) + ByteArray.size (mk (dig (Int.toNat (wrapI IntKind.i64 (cI 1 (atL x8 x10) - cI 0 (atL x8 x10))))))) : Int) (IntKind.max IntKind.i64))
              (cond (leI (↑(ByteArray.size (mk [64] ++ mk (dig (Int.toNat (cI 0 (atL x8 x10)))) ++ mk [32] ++ mk (dig (Int.toNat (wrapI IntKind.i64 (cI 1 (atL x8 x10) - cI 0 (atL x8 x10)))))) + 1) : Int) (IntKind.max IntKind.i64))
               (cond (leI 0 (↑(List.length (cX 2 (atL x8 x10))) : Int) && leI (↑(List.length (cX 2 (atL x8 x10))) : Int) 1000000000000000)
                (cond (leI (↑(ByteArray.size (mk [64] ++ mk (dig (Int.toNat (cI 0 (atL x8 x10)))) ++ mk [32] ++ mk (dig (Int.toNat (wrapI IntKind.i64 (cI 1 (atL x8 x10) - cI 0 (atL x8 x10))))) ++ mk [32]) + ByteArray.size (mk (dig (Int.toNat (↑(List.length (cX 2 (atL x8 x10))) : Int))))) : Int) (IntKind.max IntKind.i64))
                 (cond (leI (↑(ByteArray.size (mk [64] ++ mk (dig (Int.toNat (cI 0 (atL x8 x10)))) ++ mk [32] ++ mk (dig (Int.toNat (wrapI IntKind.i64 (cI 1 (atL x8 x10) - cI 0 (atL x8 x10))))) ++ mk [32] ++ mk (dig (Int.toNat (↑(List.length (cX 2 (atL x8 x10))) : Int)))) + 1) : Int) (IntKind.max IntKind.i64))
                  (cond (isBy h1 && Nat.ble (List.length h1 + ByteArray.size (mk [64] ++ mk (dig (Int.toNat (cI 0 (atL x8 x10)))) ++ mk [32] ++ mk (dig (Int.toNat (wrapI IntKind.i64 (cI 1 (atL x8 x10) - cI 0 (atL x8 x10))))) ++ mk [32] ++ mk (dig (Int.toNat (↑(List.length (cX 2 (atL x8 x10))) : Int))) ++ mk [10])) 100000000000)
                   (G (dPrint_q7 x8 x9 x10 (cX 2 (atL x8 x10)) ((↑(List.length (cX 2 (atL x8 x10))) : Int)) 0 (h1 ++ bytesOf (mk [64] ++ mk (dig (Int.toNat (cI 0 (atL x8 x10)))) ++ mk [32] ++ mk (dig (Int.toNat (wrapI IntKind.i64 (cI 1 (atL x8 x10) - cI 0 (atL x8 x10))))) ++ mk [32] ++ mk (dig (Int.toNat (↑(List.length (cX 2 (atL x8 x10))) : Int))) ++ mk [10]))))
                   none)
                  none)
                 none)
                none)
               none)
              none)
             none))
           none)
          none)
         none)
        (both
         (both
          (cond (leI 0 (cI 0 (atL x8 x10)) && leI (cI 0 (atL x8 x10)) 1000000000000000)
           (cond (leI (↑(1 + ByteArray.size (mk (dig (Int.toNat (cI 0 (atL x8 x10)))))) : Int) (IntKind.max IntKind.i64))
            (cond (leI (↑(ByteArray.size (mk [64] ++ mk (dig (Int.toNat (cI 0 (atL x8 x10))))) + 1) : Int) (IntKind.max IntKind.i64))
             (dupN 1
              (cond (leI 0 (wrapI IntKind.i64 (cI 1 (atL x8 x10) - cI 0 (atL x8 x10))) && leI (wrapI IntKind.i64 (cI 1 (atL x8 x10) - cI 0 (atL x8 x10))) 1000000000000000)
               (cond (leI (↑(ByteArray.size (mk [64] ++ mk (dig (Int.toNat (cI 0 (atL x8 x10)))) ++ mk [32]) + ByteArray.size (mk (dig (Int.toNat (wrapI IntKind.i64 (cI 1 (atL x8 x10) - cI 0 (atL x8 x10))))))) : Int) (IntKind.max IntKind.i64))
                (cond (leI (↑(ByteArray.size (mk [64] ++ mk (dig (Int.toNat (cI 0 (atL x8 x10)))) ++ mk [32] ++ mk (dig (Int.toNat (wrapI IntKind.i64 (cI 1 (atL x8 x10) - cI 0 (atL x8 x10)))))) + 1) : Int) (IntKind.max IntKind.i64))
                 (cond (leI 0 (↑(List.length (cX 2 (atL x8 x10))) : Int) && leI (↑(List.length (cX 2 (atL x8 x10))) : Int) 1000000000000000)
                  (cond (leI (↑(ByteArray.size (mk [64] ++ mk (dig (Int.toNat (cI 0 (atL x8 x10)))) ++ mk [32] ++ mk (dig (Int.toNat (wrapI IntKind.i64 (cI 1 (atL x8 x10) - cI 0 (atL x8 x10))))) ++ mk [32]) + ByteArray.size (mk (dig (Int.toNat (↑(List.length (cX 2 (atL x8 x10))) : Int))))) : Int) (IntKind.max IntKind.i64))
                   (cond (leI (↑(ByteArray.size (mk [64] ++ mk (dig (Int.toNat (cI 0 (atL x8 x10)))) ++ mk [32] ++ mk (dig (Int.toNat (wrapI IntKind.i64 (cI 1 (atL x8 x10) - cI 0 (atL x8 x10))))) ++ mk [32] ++ mk (dig (Int.toNat (↑(List.length (cX 2 (atL x8 x10))) : Int)))) + 1) : Int) (IntKind.max IntKind.i64))
                    (cond (isBy h1 && Nat.ble (List.length h1 + ByteArray.size (mk [64] ++ mk (dig (Int.toNat (cI 0 (atL x8 x10)))) ++ mk [32] ++ mk (dig (Int.toNat (wrapI IntKind.i64 (cI 1 (atL x8 x10) - cI 0 (atL x8 x10))))) ++ mk [32] ++ mk (dig (Int.toNat (↑(List.length (cX 2 (atL x8 x10))) : Int))) ++ mk [10])) 100000000000)
                     (G (dPrint_q7 x8 x9 x10 (cX 2 (atL x8 x10)) ((↑(List.length (cX 2 (atL x8 x10))) : Int)) 0 (h1 ++ bytesOf (mk [64] ++ mk (dig (Int.toNat (cI 0 (atL x8 x10)))) ++ mk [32] ++ mk (dig (Int.toNat (wrapI IntKind.i64 (cI 1 (atL x8 x10) - cI 0 (atL x8 x10))))) ++ mk [32] ++ mk (dig (Int.toNat (↑(List.length (cX 2 (atL x8 x10))) : Int))) ++ mk [10]))))
                     none)
                    none)
                   none)
                  none)
                 none)
                none)
               none))
             none)
            none)
           none)
          (cond (leI 0 (cI 0 (atL x8 x10)) && leI (cI 0 (atL x8 x10)) 1000000000000000)
           (cond (leI (↑(1 + ByteArray.size (mk (dig (Int.toNat (cI 0 (atL x8 x10)))))) : Int) (IntKind.max IntKind.i64))
            (cond (leI (↑(ByteArray.size (mk [64] ++ mk (dig (Int.toNat (cI 0 (atL x8 x10))))) + 1) : Int) (IntKind.max IntKind.i64))
             (cond (leI 0 (wrapI IntKind.i64 (cI 1 (atL x8 x10) - cI 0 (atL x8 x10))) && leI (wrapI IntKind.i64 (cI 1 (atL x8 x10) - cI 0 (atL x8 x10))) 1000000000000000)
              (cond (leI (↑(ByteArray.size (mk [64] ++ mk (dig (Int.toNat (cI 0 (atL x8 x10)))) ++ mk [32]) + ByteArray.size (mk (dig (Int.toNat (wrapI IntKind.i64 (cI 1 (atL x8 x10) - cI 0 (atL x8 x10))))))) : Int) (IntKind.max IntKind.i64))
               (cond (leI (↑(ByteArray.size (mk [64] ++ mk (dig (Int.toNat (cI 0 (atL x8 x10)))) ++ mk [32] ++ mk (dig (Int.toNat (wrapI IntKind.i64 (cI 1 (atL x8 x10) - cI 0 (atL x8 x10)))))) + 1) : Int) (IntKind.max IntKind.i64))
                (cond (leI 0 (↑(List.length (cX 2 (atL x8 x10))) : Int) && leI (↑(List.length (cX 2 (atL x8 x10))) : Int) 1000000000000000)
                 (cond (leI (↑(ByteArray.size (mk [64] ++ mk (dig (Int.toNat (cI 0 (atL x8 x10)))) ++ mk [32] ++ mk (dig (Int.toNat (wrapI IntKind.i64 (cI 1 (atL x8 x10) - cI 0 (atL x8 x10))))) ++ mk [32]) + ByteArray.size (mk (dig (Int.toNat (↑(List.length (cX 2 (atL x8 x10))) : Int))))) : Int) (IntKind.max IntKind.i64))
                  (cond (leI (↑(ByteArray.size (mk [64] ++ mk (dig (Int.toNat (cI 0 (atL x8 x10)))) ++ mk [32] ++ mk (dig (Int.toNat (wrapI IntKind.i64 (cI 1 (atL x8 x10) - cI 0 (atL x8 x10))))) ++ mk [32] ++ mk (dig (Int.toNat (↑(List.length (cX 2 (atL x8 x10))) : Int)))) + 1) : Int) (IntKind.max IntKind.i64))
                   (cond (isBy h1 && Nat.ble (List.length h1 + ByteArray.size (mk [64] ++ mk (dig (Int.toNat (cI 0 (atL x8 x10)))) ++ mk [32] ++ mk (dig (Int.toNat (wrapI IntKind.i64 (cI 1 (atL x8 x10) - cI 0 (atL x8 x10))))) ++ mk [32] ++ mk (dig (Int.toNat (↑(List.length (cX 2 (atL x8 x10))) : Int))) ++ mk [10])) 100000000000)
                    (G (dPrint_q7 x8 x9 x10 (cX 2 (atL x8 x10)) ((↑(List.length (cX 2 (atL x8 x10))) : Int)) 0 (h1 ++ bytesOf (mk [64] ++ mk (dig (Int.toNat (cI 0 (atL x8 x10)))) ++ mk [32] ++ mk (dig (Int.toNat (wrapI IntKind.i64 (cI 1 (atL x8 x10) - cI 0 (atL x8 x10))))) ++ mk [32] ++ mk (dig (Int.toNat (↑(List.length (cX 2 (atL x8 x10))) : Int))) ++ mk [10]))))
                    none)
                   none)
                  none)
                 none)
                none)
               none)
              none)
             none)
            none)
           none))
         (dupN 1
          (cond (leI 0 (cI 0 (atL x8 x10)) && leI (cI 0 (atL x8 x10)) 1000000000000000)
           (cond (leI (↑(1 + ByteArray.size (mk (dig (Int.toNat (cI 0 (atL x8 x10)))))) : Int) (IntKind.max IntKind.i64))
            (cond (leI (↑(ByteArray.size (mk [64] ++ mk (dig (Int.toNat (cI 0 (atL x8 x10))))) + 1) : Int) (IntKind.max IntKind.i64))
             (cond (leI 0 (wrapI IntKind.i64 (cI 1 (atL x8 x10) - cI 0 (atL x8 x10))) && leI (wrapI IntKind.i64 (cI 1 (atL x8 x10) - cI 0 (atL x8 x10))) 1000000000000000)
              (cond (leI (↑(ByteArray.size (mk [64] ++ mk (dig (Int.toNat (cI 0 (atL x8 x10)))) ++ mk [32]) + ByteArray.size (mk (dig (Int.toNat (wrapI IntKind.i64 (cI 1 (atL x8 x10) - cI 0 (atL x8 x10))))))) : Int) (IntKind.max IntKind.i64))
               (cond (leI (↑(ByteArray.size (mk [64] ++ mk (dig (Int.toNat (cI 0 (atL x8 x10)))) ++ mk [32] ++ mk (dig (Int.toNat (wrapI IntKind.i64 (cI 1 (atL x8 x10) - cI 0 (atL x8 x10)))))) + 1) : Int) (IntKind.max IntKind.i64))
                (cond (leI 0 (↑(List.length (cX 2 (atL x8 x10))) : Int) && leI (↑(List.length (cX 2 (atL x8 x10))) : Int) 1000000000000000)
                 (cond (leI (↑(ByteArray.size (mk [64] ++ mk (dig (Int.toNat (cI 0 (atL x8 x10)))) ++ mk [32] ++ mk (dig (Int.toNat (wrapI IntKind.i64 (cI 1 (atL x8 x10) - cI 0 (atL x8 x10))))) ++ mk [32]) + ByteArray.size (mk (dig (Int.toNat (↑(List.length (cX 2 (atL x8 x10))) : Int))))) : Int) (IntKind.max IntKind.i64))
                  (cond (leI (↑(ByteArray.size (mk [64] ++ mk (dig (Int.toNat (cI 0 (atL x8 x10)))) ++ mk [32] ++ mk (dig (Int.toNat (wrapI IntKind.i64 (cI 1 (atL x8 x10) - cI 0 (atL x8 x10))))) ++ mk [32] ++ mk (dig (Int.toNat (↑(List.length (cX 2 (atL x8 x10))) : Int)))) + 1) : Int) (IntKind.max IntKind.i64))
                   (cond (isBy h1 && Nat.ble (List.length h1 + ByteArray.size (mk [64] ++ mk (dig (Int.toNat (cI 0 (atL x8 x10)))) ++ mk [32] ++ mk (dig (Int.toNat (wrapI IntKind.i64 (cI 1 (atL x8 x10) - cI 0 (atL x8 x10))))) ++ mk [32] ++ mk (dig (Int.toNat (↑(List.length (cX 2 (atL x8 x10))) : Int))) ++ mk [10])) 100000000000)
                    (G (dPrint_q7 x8 x9 x10 (cX 2 (atL x8 x10)) ((↑(List.length (cX 2 (atL x8 x10))) : Int)) 0 (h1 ++ bytesOf (mk [64] ++ mk (dig (Int.toNat (cI 0 (atL x8 x10)))) ++ mk [32] ++ mk (dig (Int.toNat (wrapI IntKind.i64 (cI 1 (atL x8 x10) - cI 0 (atL x8 x10))))) ++ mk [32] ++ mk (dig (Int.toNat (↑(List.length (cX 2 (atL x8 x10))) : Int))) ++ mk [10]))))
                    none)
                   none)
                  none)
                 none)
                none)
               none)
              none)
             none)
            none)
           none))))
       (both
        (both
         (cond (leI 0 (cI 0 (atL x8 x10)) && leI (cI 0 (atL x8 x10)) 1000000000000000)
          (cond (leI (↑(1 + ByteArray.size (mk (dig (Int.toNat (cI 0 (atL x8 x10)))))) : Int) (IntKind.max IntKind.i64))
           (cond (leI (↑(ByteArray.size (mk [64] ++ mk (dig (Int.toNat (cI 0 (atL x8 x10))))) + 1) : Int) (IntKind.max IntKind.i64))
            (dupN 1
             (cond (leI 0 (wrapI IntKind.i64 (cI 1 (atL x8 x10) - cI 0 (atL x8 x10))) && leI (wrapI IntKind.i64 (cI 1 (atL x8 x10) - cI 0 (atL x8 x10))) 1000000000000000)
              (cond (leI (↑(ByteArray.size (mk [64] ++ mk (dig (Int.toNat (cI 0 (atL x8 x10)))) ++ mk [32]) + ByteArray.size (mk (dig (Int.toNat (wrapI IntKind.i64 (cI 1 (atL x8 x10) - cI 0 (atL x8 x10))))))) : Int) (IntKind.max IntKind.i64))
               (cond (leI (↑(ByteArray.size (mk [64] ++ mk (dig (Int.toNat (cI 0 (atL x8 x10)))) ++ mk [32] ++ mk (dig (Int.toNat (wrapI IntKind.i64 (cI 1 (atL x8 x10) - cI 0 (atL x8 x10)))))) + 1) : Int) (IntKind.max IntKind.i64))
                (cond (leI 0 (↑(List.length (cX 2 (atL x8 x10))) : Int) && leI (↑(List.length (cX 2 (atL x8 x10))) : Int) 1000000000000000)
                 (cond (leI (↑(ByteArray.size (mk [64] ++ mk (dig (Int.toNat (cI 0 (atL x8 x10)))) ++ mk [32] ++ mk (dig (Int.toNat (wrapI IntKind.i64 (cI 1 (atL x8 x10) - cI 0 (atL x8 x10))))) ++ mk [32]) + ByteArray.size (mk (dig (Int.toNat (↑(List.length (cX 2 (atL x8 x10))) : Int))))) : Int) (IntKind.max IntKind.i64))
                  (cond (leI (↑(ByteArray.size (mk [64] ++ mk (dig (Int.toNat (cI 0 (atL x8 x10)))) ++ mk [32] ++ mk (dig (Int.toNat (wrapI IntKind.i64 (cI 1 (atL x8 x10) - cI 0 (atL x8 x10))))) ++ mk [32] ++ mk (dig (Int.toNat (↑(List.length (cX 2 (atL x8 x10))) : Int)))) + 1) : Int) (IntKind.max IntKind.i64))
                   (cond (isBy h1 && Nat.ble (List.length h1 + ByteArray.size (mk [64] ++ mk (dig (Int.toNat (cI 0 (atL x8 x10)))) ++ mk [32] ++ mk (dig (Int.toNat (wrapI IntKind.i64 (cI 1 (atL x8 x10) - cI 0 (atL x8 x10))))) ++ mk [32] ++ mk (dig (Int.toNat (↑(List.length (cX 2 (atL x8 x10))) : Int))) ++ mk [10])) 100000000000)
                    (G (dPrint_q7 x8 x9 x10 (cX 2 (atL x8 x10)) ((↑(List.length (cX 2 (atL x8 x10))) : Int)) 0 (h1 ++ bytesOf (mk [64] ++ mk (dig (Int.toNat (cI 0 (atL x8 x10)))) ++ mk [32] ++ mk (dig (Int.toNat (wrapI IntKind.i64 (cI 1 (atL x8 x10) - cI 0 (atL x8 x10))))) ++ mk [32] ++ mk (dig (Int.toNat (↑(List.length (cX 2 (atL x8 x10))) : Int))) ++ mk [10]))))
                    none)
                   none)
                  none)
                 none)
                none)
               none)
              none))
            none)
           none)
          none)
         (cond (leI 0 (cI 0 (atL x8 x10)) && leI (cI 0 (atL x8 x10)) 1000000000000000)
          (cond (leI (↑(1 + ByteArray.size (mk (dig (Int.toNat (cI 0 (atL x8 x10)))))) : Int) (IntKind.max IntKind.i64))
           (cond (leI (↑(ByteArray.size (mk [64] ++ mk (dig (Int.toNat (cI 0 (atL x8 x10))))) + 1) : Int) (IntKind.max IntKind.i64))
            (cond (leI 0 (wrapI IntKind.i64 (cI 1 (atL x8 x10) - cI 0 (atL x8 x10))) && leI (wrapI IntKind.i64 (cI 1 (atL x8 x10) - cI 0 (atL x8 x10))) 1000000000000000)
             (cond (leI (↑(ByteArray.size (mk [64] ++ mk (dig (Int.toNat (cI 0 (atL x8 x10)))) ++ mk [32]) + ByteArray.size (mk (dig (Int.toNat (wrapI IntKind.i64 (cI 1 (atL x8 x10) - cI 0 (atL x8 x10))))))) : Int) (IntKind.max IntKind.i64))
              (cond (leI (↑(ByteArray.size (mk [64] ++ mk (dig (Int.toNat (cI 0 (atL x8 x10)))) ++ mk [32] ++ mk (dig (Int.toNat (wrapI IntKind.i64 (cI 1 (atL x8 x10) - cI 0 (atL x8 x10)))))) + 1) : Int) (IntKind.max IntKind.i64))
               (cond (leI 0 (↑(List.length (cX 2 (atL x8 x10))) : Int) && leI (↑(List.length (cX 2 (atL x8 x10))) : Int) 1000000000000000)
                (cond (leI (↑(ByteArray.size (mk [64] ++ mk (dig (Int.toNat (cI 0 (atL x8 x10)))) ++ mk [32] ++ mk (dig (Int.toNat (wrapI IntKind.i64 (cI 1 (atL x8 x10) - cI 0 (atL x8 x10))))) ++ mk [32]) + ByteArray.size (mk (dig (Int.toNat (↑(List.length (cX 2 (atL x8 x10))) : Int))))) : Int) (IntKind.max IntKind.i64))
                 (cond (leI (↑(ByteArray.size (mk [64] ++ mk (dig (Int.toNat (cI 0 (atL x8 x10)))) ++ mk [32] ++ mk (dig (Int.toNat (wrapI IntKind.i64 (cI 1 (atL x8 x10) - cI 0 (atL x8 x10))))) ++ mk [32] ++ mk (dig (Int.toNat (↑(List.length (cX 2 (atL x8 x10))) : Int)))) + 1) : Int) (IntKind.max IntKind.i64))
                  (cond (isBy h1 && Nat.ble (List.length h1 + ByteArray.size (mk [64] ++ mk (dig (Int.toNat (cI 0 (atL x8 x10)))) ++ mk [32] ++ mk (dig (Int.toNat (wrapI IntKind.i64 (cI 1 (atL x8 x10) - cI 0 (atL x8 x10))))) ++ mk [32] ++ mk (dig (Int.toNat (↑(List.length (cX 2 (atL x8 x10))) : Int))) ++ mk [10])) 100000000000)
                   (G (dPrint_q7 x8 x9 x10 (cX 2 (atL x8 x10)) ((↑(List.length (cX 2 (atL x8 x10))) : Int)) 0 (h1 ++ bytesOf (mk [64] ++ mk (dig (Int.toNat (cI 0 (atL x8 x10)))) ++ mk [32] ++ mk (dig (Int.toNat (wrapI IntKind.i64 (cI 1 (atL x8 x10) - cI 0 (atL x8 x10))))) ++ mk [32] ++ mk (dig (Int.toNat (↑(List.length (cX 2 (atL x8 x10))) : Int))) ++ mk [10]))))
                   none)
                  none)
                 none)
                none)
               none)
              none)
             none)
            none)
           none)
          none))
        (both
         (dupN 1
          (cond (leI 0 (cI 0 (atL x8 x10)) && leI (cI 0 (atL x8 x10)) 1000000000000000)
           (cond (leI (↑(1 + ByteArray.size (mk (dig (Int.toNat (cI 0 (atL x8 x10)))))) : Int) (IntKind.max IntKind.i64))
            (cond (leI (↑(ByteArray.size (mk [64] ++ mk (dig (Int.toNat (cI 0 (atL x8 x10))))) + 1) : Int) (IntKind.max IntKind.i64))
             (cond (leI 0 (wrapI IntKind.i64 (cI 1 (atL x8 x10) - cI 0 (atL x8 x10))) && leI (wrapI IntKind.i64 (cI 1 (atL x8 x10) - cI 0 (atL x8 x10))) 1000000000000000)
              (cond (leI (↑(ByteArray.size (mk [64] ++ mk (dig (Int.toNat (cI 0 (atL x8 x10)))) ++ mk [32]) + ByteArray.size (mk (dig (Int.toNat (wrapI IntKind.i64 (cI 1 (atL x8 x10) - cI 0 (atL x8 x10))))))) : Int) (IntKind.max IntKind.i64))
               (cond (leI (↑(ByteArray.size (mk [64] ++ mk (dig (Int.toNat (cI 0 (atL x8 x10)))) ++ mk [32] ++ mk (dig (Int.toNat (wrapI IntKind.i64 (cI 1 (atL x8 x10) - cI 0 (atL x8 x10)))))) + 1) : Int) (IntKind.max IntKind.i64))
                (cond (leI 0 (↑(List.length (cX 2 (atL x8 x10))) : Int) && leI (↑(List.length (cX 2 (atL x8 x10))) : Int) 1000000000000000)
                 (cond (leI (↑(ByteArray.size (mk [64] ++ mk (dig (Int.toNat (cI 0 (atL x8 x10)))) ++ mk [32] ++ mk (dig (Int.toNat (wrapI IntKind.i64 (cI 1 (atL x8 x10) - cI 0 (atL x8 x10))))) ++ mk [32]) + ByteArray.size (mk (dig (Int.toNat (↑(List.length (cX 2 (atL x8 x10))) : Int))))) : Int) (IntKind.max IntKind.i64))
                  (cond (leI (↑(ByteArray.size (mk [64] ++ mk (dig (Int.toNat (cI 0 (atL x8 x10)))) ++ mk [32] ++ mk (dig (Int.toNat (wrapI IntKind.i64 (cI 1 (atL x8 x10) - cI 0 (atL x8 x10))))) ++ mk [32] ++ mk (dig (Int.toNat (↑(List.length (cX 2 (atL x8 x10))) : Int)))) + 1) : Int) (IntKind.max IntKind.i64))
                   (cond (isBy h1 && Nat.ble (List.length h1 + ByteArray.size (mk [64] ++ mk (dig (Int.toNat (cI 0 (atL x8 x10)))) ++ mk [32] ++ mk (dig (Int.toNat (wrapI IntKind.i64 (cI 1 (atL x8 x10) - cI 0 (atL x8 x10))))) ++ mk [32] ++ mk (dig (Int.toNat (↑(List.length (cX 2 (atL x8 x10))) : Int))) ++ mk [10])) 100000000000)
                    (G (dPrint_q7 x8 x9 x10 (cX 2 (atL x8 x10)) ((↑(List.length (cX 2 (atL x8 x10))) : Int)) 0 (h1 ++ bytesOf (mk [64] ++ mk (dig (Int.toNat (cI 0 (atL x8 x10)))) ++ mk [32] ++ mk (dig (Int.toNat (wrapI IntKind.i64 (cI 1 (atL x8 x10) - cI 0 (atL x8 x10))))) ++ mk [32] ++ mk (dig (Int.toNat (↑(List.length (cX 2 (atL x8 x10))) : Int))) ++ mk [10]))))
                    none)
                   none)
                  none)
                 none)
                none)
               none)
              none)
             none)
            none)
           none))
         (cond (leI 0 (cI 0 (atL x8 x10)) && leI (cI 0 (atL x8 x10)) 1000000000000000)
          (cond (leI (↑(1 + ByteArray.size (mk (dig (Int.toNat (cI 0 (atL x8 x10)))))) : Int) (IntKind.max IntKind.i64))
           (cond (leI (↑(ByteArray.size (mk [64] ++ mk (dig (Int.toNat (cI 0 (atL x8 x10))))) + 1) : Int) (IntKind.max IntKind.i64))
            (cond (leI 0 (wrapI IntKind.i64 (cI 1 (atL x8 x10) - cI 0 (atL x8 x10))) && leI (wrapI IntKind.i64 (cI 1 (atL x8 x10) - cI 0 (atL x8 x10))) 1000000000000000)
             (cond (leI (↑(ByteArray.size (mk [64] ++ mk (dig (Int.toNat (cI 0 (atL x8 x10)))) ++ mk [32]) + ByteArray.size (mk (dig (Int.toNat (wrapI IntKind.i64 (cI 1 (atL x8 x10) - cI 0 (atL x8 x10))))))) : Int) (IntKind.max IntKind.i64))
              (cond (leI (↑(ByteArray.size (mk [64] ++ mk (dig (Int.toNat (cI 0 (atL x8 x10)))) ++ mk [32] ++ mk (dig (Int.toNat (wrapI IntKind.i64 (cI 1 (atL x8 x10) - cI 0 (atL x8 x10)))))) + 1) : Int) (IntKind.max IntKind.i64))
               (cond (leI 0 (↑(List.length (cX 2 (atL x8 x10))) : Int) && leI (↑(List.length (cX 2 (atL x8 x10))) : Int) 1000000000000000)
                (cond (leI (↑(ByteArray.size (mk [64] ++ mk (dig (Int.toNat (cI 0 (atL x8 x10)))) ++ mk [32] ++ mk (dig (Int.toNat (wrapI IntKind.i64 (cI 1 (atL x8 x10) - cI 0 (atL x8 x10))))) ++ mk [32]) + ByteArray.size (mk (dig (Int.toNat (↑(List.length (cX 2 (atL x8 x10))) : Int))))) : Int) (IntKind.max IntKind.i64))
                 (cond (leI (↑(ByteArray.size (mk [64] ++ mk (dig (Int.toNat (cI 0 (atL x8 x10)))) ++ mk [32] ++ mk (dig (Int.toNat (wrapI IntKind.i64 (cI 1 (atL x8 x10) - cI 0 (atL x8 x10))))) ++ mk [32] ++ mk (dig (Int.toNat (↑(List.length (cX 2 (atL x8 x10))) : Int)))) + 1) : Int) (IntKind.max IntKind.i64))
                  (cond (isBy h1 && Nat.ble (List.length h1 + ByteArray.size (mk [64] ++ mk (dig (Int.toNat (cI 0 (atL x8 x10)))) ++ mk [32] ++ mk (dig (Int.toNat (wrapI IntKind.i64 (cI 1 (atL x8 x10) - cI 0 (atL x8 x10))))) ++ mk [32] ++ mk (dig (Int.toNat (↑(List.length (cX 2 (atL x8 x10))) : Int))) ++ mk [10])) 100000000000)
                   (G (dPrint_q7 x8 x9 x10 (cX 2 (atL x8 x10)) ((↑(List.length (cX 2 (atL x8 x10))) : Int)) 0 (h1 ++ bytesOf (mk [64] ++ mk (dig (Int.toNat (cI 0 (atL x8 x10)))) ++ mk [32] ++ mk (dig (Int.toNat (wrapI IntKind.i64 (cI 1 (atL x8 x10) - cI 0 (atL x8 x10))))) ++ mk [32] ++ mk (dig (Int.toNat (↑(List.length (cX 2 (atL x8 x10))) : Int))) ++ mk [10]))))
                   none)
                  none)
                 none)
                none)
               none)
              none)
             none)
            none)
           none)
          none))))
      (both
       (both
        (both
         (cond (leI 0 (cI 0 (atL x8 x10)) && leI (cI 0 (atL x8 x10)) 1000000000000000)
          (cond (leI (↑(1 + ByteArray.size (mk (dig (Int.toNat (cI 0 (atL x8 x10)))))) : Int) (IntKind.max IntKind.i64))
           (cond (leI (↑(ByteArray.size (mk [64] ++ mk (dig (Int.toNat (cI 0 (atL x8 x10))))) + 1) : Int) (IntKind.max IntKind.i64))
            (dupN 1
             (cond (leI 0 (wrapI IntKind.i64 (cI 1 (atL x8 x10) - cI 0 (atL x8 x10))) && leI (wrapI IntKind.i64 (cI 1 (atL x8 x10) - cI 0 (atL x8 x10))) 1000000000000000)
              (cond (leI (↑(ByteArray.size (mk [64] ++ mk (dig (Int.toNat (cI 0 (atL x8 x10)))) ++ mk [32]) + ByteArray.size (mk (dig (Int.toNat (wrapI IntKind.i64 (cI 1 (atL x8 x10) - cI 0 (atL x8 x10))))))) : Int) (IntKind.max IntKind.i64))
               (cond (leI (↑(ByteArray.size (mk [64] ++ mk (dig (Int.toNat (cI 0 (atL x8 x10)))) ++ mk [32] ++ mk (dig (Int.toNat (wrapI IntKind.i64 (cI 1 (atL x8 x10) - cI 0 (atL x8 x10)))))) + 1) : Int) (IntKind.max IntKind.i64))
                (cond (leI 0 (↑(List.length (cX 2 (atL x8 x10))) : Int) && leI (↑(List.length (cX 2 (atL x8 x10))) : Int) 1000000000000000)
                 (cond (leI (↑(ByteArray.size (mk [64] ++ mk (dig (Int.toNat (cI 0 (atL x8 x10)))) ++ mk [32] ++ mk (dig (Int.toNat (wrapI IntKind.i64 (cI 1 (atL x8 x10) - cI 0 (atL x8 x10))))) ++ mk [32]) + ByteArray.size (mk (dig (Int.toNat (↑(List.length (cX 2 (atL x8 x10))) : Int))))) : Int) (IntKind.max IntKind.i64))
                  (cond (leI (↑(ByteArray.size (mk [64] ++ mk (dig (Int.toNat (cI 0 (atL x8 x10)))) ++ mk [32] ++ mk (dig (Int.toNat (wrapI IntKind.i64 (cI 1 (atL x8 x10) - cI 0 (atL x8 x10))))) ++ mk [32] ++ mk (dig (Int.toNat (↑(List.length (cX 2 (atL x8 x10))) : Int)))) + 1) : Int) (IntKind.max IntKind.i64))
                   (cond (isBy h1 && Nat.ble (List.length h1 + ByteArray.size (mk [64] ++ mk (dig (Int.toNat (cI 0 (atL x8 x10)))) ++ mk [32] ++ mk (dig (Int.toNat (wrapI IntKind.i64 (cI 1 (atL x8 x10) - cI 0 (atL x8 x10))))) ++ mk [32] ++ mk (dig (Int.toNat (↑(List.length (cX 2 (atL x8 x10))) : Int))) ++ mk [10])) 100000000000)
                    (G (dPrint_q7 x8 x9 x10 (cX 2 (atL x8 x10)) ((↑(List.length (cX 2 (atL x8 x10))) : Int)) 0 (h1 ++ bytesOf (mk [64] ++ mk (dig (Int.toNat (cI 0 (atL x8 x10)))) ++ mk [32] ++ mk (dig (Int.toNat (wrapI IntKind.i64 (cI 1 (atL x8 x10) - cI 0 (atL x8 x10))))) ++ mk [32] ++ mk (dig (Int.toNat (↑(List.length (cX 2 (atL x8 x10))) : Int))) ++ mk [10]))))
                    none)
                   none)
                  none)
                 none)
                none)
               none)
              none))
            none)
           none)
          none)
         (both
          (both
           (cond (leI 0 (cI 0 (atL x8 x10)) && leI (cI 0 (atL x8 x10)) 1000000000000000)
            (cond (leI (↑(1 + ByteArray.size (mk (dig (Int.toNat (cI 0 (atL x8 x10)))))) : Int) (IntKind.max IntKind.i64))
             (cond (leI (↑(ByteArray.size (mk [64] ++ mk (dig (Int.toNat (cI 0 (atL x8 x10))))) + 1) : Int) (IntKind.max IntKind.i64))
              (dupN 1
               (cond (leI 0 (wrapI IntKind.i64 (cI 1 (atL x8 x10) - cI 0 (atL x8 x10))) && leI (wrapI IntKind.i64 (cI 1 (atL x8 x10) - cI 0 (atL x8 x10))) 1000000000000000)
                (cond (leI (↑(ByteArray.size (mk [64] ++ mk (dig (Int.toNat (cI 0 (atL x8 x10)))) ++ mk [32]) + ByteArray.size (mk (dig (Int.toNat (wrapI IntKind.i64 (cI 1 (atL x8 x10) - cI 0 (atL x8 x10))))))) : Int) (IntKind.max IntKind.i64))
                 (cond (leI (↑(ByteArray.size (mk [64] ++ mk (dig (Int.toNat (cI 0 (atL x8 x10)))) ++ mk [32] ++ mk (dig (Int.toNat (wrapI IntKind.i64 (cI 1 (atL x8 x10) - cI 0 (atL x8 x10)))))) + 1) : Int) (IntKind.max IntKind.i64))
                  (cond (leI 0 (↑(List.length (cX 2 (atL x8 x10))) : Int) && leI (↑(List.length (cX 2 (atL x8 x10))) : Int) 1000000000000000)
                   (cond (leI (↑(ByteArray.size (mk [64] ++ mk (dig (Int.toNat (cI 0 (atL x8 x10)))) ++ mk [32] ++ mk (dig (Int.toNat (wrapI IntKind.i64 (cI 1 (atL x8 x10) - cI 0 (atL x8 x10))))) ++ mk [32]) + ByteArray.size (mk (dig (Int.toNat (↑(List.length (cX 2 (atL x8 x10))) : Int))))) : Int) (IntKind.max IntKind.i64))
                    (cond (leI (↑(ByteArray.size (mk [64] ++ mk (dig (Int.toNat (cI 0 (atL x8 x10)))) ++ mk [32] ++ mk (dig (Int.toNat (wrapI IntKind.i64 (cI 1 (atL x8 x10) - cI 0 (atL x8 x10))))) ++ mk [32] ++ mk (dig (Int.toNat (↑(List.length (cX 2 (atL x8 x10))) : Int)))) + 1) : Int) (IntKind.max IntKind.i64))
                     (cond (isBy h1 && Nat.ble (List.length h1 + ByteArray.size (mk [64] ++ mk (dig (Int.toNat (cI 0 (atL x8 x10)))) ++ mk [32] ++ mk (dig (Int.toNat (wrapI IntKind.i64 (cI 1 (atL x8 x10) - cI 0 (atL x8 x10))))) ++ mk [32] ++ mk (dig (Int.toNat (↑(List.length (cX 2 (atL x8 x10))) : Int))) ++ mk [10])) 100000000000)
                      (G (dPrint_q7 x8 x9 x10 (cX 2 (atL x8 x10)) ((↑(List.length (cX 2 (atL x8 x10))) : Int)) 0 (h1 ++ bytesOf (mk [64] ++ mk (dig (Int.toNat (cI 0 (atL x8 x10)))) ++ mk [32] ++ mk (dig (Int.toNat (wrapI IntKind.i64 (cI 1 (atL x8 x10) - cI 0 (atL x8 x10))))) ++ mk [32] ++ mk (dig (Int.toNat (↑(List.length (cX 2 (atL x8 x10))) : Int))) ++ mk [10]))))
                      none)
                     none)
                    none)
                   none)
                  none)
                 none)
                none))
              none)
             none)
            none)
           (cond (leI 0 (cI 0 (atL x8 x10)) && leI (cI 0 (atL x8 x10)) 1000000000000000)
            (cond (leI (↑(1 + ByteArray.size (mk (dig (Int.toNat (cI 0 (atL x8 x10)))))) : Int) (IntKind.max IntKind.i64))
             (cond (leI (↑(ByteArray.size (mk [64] ++ mk (dig (Int.toNat (cI 0 (atL x8 x10))))) + 1) : Int) (IntKind.max IntKind.i64))
              (cond (leI 0 (wrapI IntKind.i64 (cI 1 (atL x8 x10) - cI 0 (atL x8 x10))) && leI (wrapI IntKind.i64 (cI 1 (atL x8 x10) - cI 0 (atL x8 x10))) 1000000000000000)
               (cond (leI (↑(ByteArray.size (mk [64] ++ mk (dig (Int.toNat (cI 0 (atL x8 x10)))) ++ mk [32]) + ByteArray.size (mk (dig (Int.toNat (wrapI IntKind.i64 (cI 1 (atL x8 x10) - cI 0 (atL x8 x10))))))) : Int) (IntKind.max IntKind.i64))
                (cond (leI (↑(ByteArray.size (mk [64] ++ mk (dig (Int.toNat (cI 0 (atL x8 x10)))) ++ mk [32] ++ mk (dig (Int.toNat (wrapI IntKind.i64 (cI 1 (atL x8 x10) - cI 0 (atL x8 x10)))))) + 1) : Int) (IntKind.max IntKind.i64))
                 (cond (leI 0 (↑(List.length (cX 2 (atL x8 x10))) : Int) && leI (↑(List.length (cX 2 (atL x8 x10))) : Int) 1000000000000000)
                  (cond (leI (↑(ByteArray.size (mk [64] ++ mk (dig (Int.toNat (cI 0 (atL x8 x10)))) ++ mk [32] ++ mk (dig (Int.toNat (wrapI IntKind.i64 (cI 1 (atL x8 x10) - cI 0 (atL x8 x10))))) ++ mk [32]) + ByteArray.size (mk (dig (Int.toNat (↑(List.length (cX 2 (atL x8 x10))) : Int))))) : Int) (IntKind.max IntKind.i64))
                   (cond (leI (↑(ByteArray.size (mk [64] ++ mk (dig (Int.toNat (cI 0 (atL x8 x10)))) ++ mk [32] ++ mk (dig (Int.toNat (wrapI IntKind.i64 (cI 1 (atL x8 x10) - cI 0 (atL x8 x10))))) ++ mk [32] ++ mk (dig (Int.toNat (↑(List.length (cX 2 (atL x8 x10))) : Int)))) + 1) : Int) (IntKind.max IntKind.i64))
                    (cond (isBy h1 && Nat.ble (List.length h1 + ByteArray.size (mk [64] ++ mk (dig (Int.toNat (cI 0 (atL x8 x10)))) ++ mk [32] ++ mk (dig (Int.toNat (wrapI IntKind.i64 (cI 1 (atL x8 x10) - cI 0 (atL x8 x10))))) ++ mk [32] ++ mk (dig (Int.toNat (↑(List.length (cX 2 (atL x8 x10))) : Int))) ++ mk [10])) 100000000000)
                     (G (dPrint_q7 x8 x9 x10 (cX 2 (atL x8 x10)) ((↑(List.length (cX 2 (atL x8 x10))) : Int)) 0 (h1 ++ bytesOf (mk [64] ++ mk (dig (Int.toNat (cI 0 (atL x8 x10)))) ++ mk [32] ++ mk (dig (Int.toNat (wrapI IntKind.i64 (cI 1 (atL x8 x10) - cI 0 (atL x8 x10))))) ++ mk [32] ++ mk (dig (Int.toNat (↑(List.length (cX 2 (atL x8 x10))) : Int))) ++ mk [10]))))
                     none)
                    none)
                   none)
                  none)
                 none)
                none)
               none)
              none)
             none)
            none))
          (dupN 1
           (cond (leI 0 (cI 0 (atL x8 x10)) && leI (cI 0 (atL x8 x10)) 1000000000000000)
            (cond (leI (↑(1 + ByteArray.size (mk (dig (Int.toNat (cI 0 (atL x8 x10)))))) : Int) (IntKind.max IntKind.i64))
             (cond (leI (↑(ByteArray.size (mk [64] ++ mk (dig (Int.toNat (cI 0 (atL x8 x10))))) + 1) : Int) (IntKind.max IntKind.i64))
              (cond (leI 0 (wrapI IntKind.i64 (cI 1 (atL x8 x10) - cI 0 (atL x8 x10))) && leI (wrapI IntKind.i64 (cI 1 (atL x8 x10) - cI 0 (atL x8 x10))) 1000000000000000)
               (cond (leI (↑(ByteArray.size (mk [64] ++ mk (dig (Int.toNat (cI 0 (atL x8 x10)))) ++ mk [32]) + ByteArray.size (mk (dig (Int.toNat (wrapI IntKind.i64 (cI 1 (atL x8 x10) - cI 0 (atL x8 x10))))))) : Int) (IntKind.max IntKind.i64))
                (cond (leI (↑(ByteArray.size (mk [64] ++ mk (dig (Int.toNat (cI 0 (atL x8 x10)))) ++ mk [32] ++ mk (dig (Int.toNat (wrapI IntKind.i64 (cI 1 (atL x8 x10) - cI 0 (atL x8 x10)))))) + 1) : Int) (IntKind.max IntKind.i64))
                 (cond (leI 0 (↑(List.length (cX 2 (atL x8 x10))) : Int) && leI (↑(List.length (cX 2 (atL x8 x10))) : Int) 1000000000000000)
                  (cond (leI (↑(ByteArray.size (mk [64] ++ mk (dig (Int.toNat (cI 0 (atL x8 x10)))) ++ mk [32] ++ mk (dig (Int.toNat (wrapI IntKind.i64 (cI 1 (atL x8 x10) - cI 0 (atL x8 x10))))) ++ mk [32]) + ByteArray.size (mk (dig (Int.toNat (↑(List.length (cX 2 (atL x8 x10))) : Int))))) : Int) (IntKind.max IntKind.i64))
                   (cond (leI (↑(ByteArray.size (mk [64] ++ mk (dig (Int.toNat (cI 0 (atL x8 x10)))) ++ mk [32] ++ mk (dig (Int.toNat (wrapI IntKind.i64 (cI 1 (atL x8 x10) - cI 0 (atL x8 x10))))) ++ mk [32] ++ mk (dig (Int.toNat (↑(List.length (cX 2 (atL x8 x10))) : Int)))) + 1) : Int) (IntKind.max IntKind.i64))
                    (cond (isBy h1 && Nat.ble (List.length h1 + ByteArray.size (mk [64] ++ mk (dig (Int.toNat (cI 0 (atL x8 x10)))) ++ mk [32] ++ mk (dig (Int.toNat (wrapI IntKind.i64 (cI 1 (atL x8 x10) - cI 0 (atL x8 x10))))) ++ mk [32] ++ mk (dig (Int.toNat (↑(List.length (cX 2 (atL x8 x10))) : Int))) ++ mk [10])) 100000000000)
                     (G (dPrint_q7 x8 x9 x10 (cX 2 (atL x8 x10)) ((↑(List.length (cX 2 (atL x8 x10))) : Int)) 0 (h1 ++ bytesOf (mk [64] ++ mk (dig (Int.toNat (cI 0 (atL x8 x10)))) ++ mk [32] ++ mk (dig (Int.toNat (wrapI IntKind.i64 (cI 1 (atL x8 x10) - cI 0 (atL x8 x10))))) ++ mk [32] ++ mk (dig (Int.toNat (↑(List.length (cX 2 (atL x8 x10))) : Int))) ++ mk [10]))))
                     none)
                    none)
                   none)
                  none)
                 none)
                none)
               none)
              none)
             none)
            none))))
        (both
         (both
          (cond (leI 0 (cI 0 (atL x8 x10)) && leI (cI 0 (atL x8 x10)) 1000000000000000)
           (cond (leI (↑(1 + ByteArray.size (mk (dig (Int.toNat (cI 0 (atL x8 x10)))))) : Int) (IntKind.max IntKind.i64))
            (cond (leI (↑(ByteArray.size (mk [64] ++ mk (dig (Int.toNat (cI 0 (atL x8 x10))))) + 1) : Int) (IntKind.max IntKind.i64))
             (dupN 1
              (cond (leI 0 (wrapI IntKind.i64 (cI 1 (atL x8 x10) - cI 0 (atL x8 x10))) && leI (wrapI IntKind.i64 (cI 1 (atL x8 x10) - cI 0 (atL x8 x10))) 1000000000000000)
               (cond (leI (↑(ByteArray.size (mk [64] ++ mk (dig (Int.toNat (cI 0 (atL x8 x10)))) ++ mk [32]) + ByteArray.size (mk (dig (Int.toNat (wrapI IntKind.i64 (cI 1 (atL x8 x10) - cI 0 (atL x8 x10))))))) : Int) (IntKind.max IntKind.i64))
                (cond (leI (↑(ByteArray.size (mk [64] ++ mk (dig (Int.toNat (cI 0 (atL x8 x10)))) ++ mk [32] ++ mk (dig (Int.toNat (wrapI IntKind.i64 (cI 1 (atL x8 x10) - cI 0 (atL x8 x10)))))) + 1) : Int) (IntKind.max IntKind.i64))
                 (cond (leI 0 (↑(List.length (cX 2 (atL x8 x10))) : Int) && leI (↑(List.length (cX 2 (atL x8 x10))) : Int) 1000000000000000)
                  (cond (leI (↑(ByteArray.size (mk [64] ++ mk (dig (Int.toNat (cI 0 (atL x8 x10)))) ++ mk [32] ++ mk (dig (Int.toNat (wrapI IntKind.i64 (cI 1 (atL x8 x10) - cI 0 (atL x8 x10))))) ++ mk [32]) + ByteArray.size (mk (dig (Int.toNat (↑(List.length (cX 2 (atL x8 x10))) : Int))))) : Int) (IntKind.max IntKind.i64))
                   (cond (leI (↑(ByteArray.size (mk [64] ++ mk (dig (Int.toNat (cI 0 (atL x8 x10)))) ++ mk [32] ++ mk (dig (Int.toNat (wrapI IntKind.i64 (cI 1 (atL x8 x10) - cI 0 (atL x8 x10))))) ++ mk [32] ++ mk (dig (Int.toNat (↑(List.length (cX 2 (atL x8 x10))) : Int)))) + 1) : Int) (IntKind.max IntKind.i64))
                    (cond (isBy h1 && Nat.ble (List.length h1 + ByteArray.size (mk [64] ++ mk (dig (Int.toNat (cI 0 (atL x8 x10)))) ++ mk [32] ++ mk (dig (Int.toNat (wrapI IntKind.i64 (cI 1 (atL x8 x10) - cI 0 (atL x8 x10))))) ++ mk [32] ++ mk (dig (Int.toNat (↑(List.length (cX 2 (atL x8 x10))) : Int))) ++ mk [10])) 100000000000)
                     (G (dPrint_q7 x8 x9 x10 (cX 2 (atL x8 x10)) ((↑(List.length (cX 2 (atL x8 x10))) : Int)) 0 (h1 ++ bytesOf (mk [64] ++ mk (dig (Int.toNat (cI 0 (atL x8 x10)))) ++ mk [32] ++ mk (dig (Int.toNat (wrapI IntKind.i64 (cI 1 (atL x8 x10) - cI 0 (atL x8 x10))))) ++ mk [32] ++ mk (dig (Int.toNat (↑(List.length (cX 2 (atL x8 x10))) : Int))) ++ mk [10]))))
                     none)
                    none)
                   none)
                  none)
                 none)
                none)
               none))
             none)
            none)
           none)
          (cond (leI 0 (cI 0 (atL x8 x10)) && leI (cI 0 (atL x8 x10)) 1000000000000000)
           (cond (leI (↑(1 + ByteArray.size (mk (dig (Int.toNat (cI 0 (atL x8 x10)))))) : Int) (IntKind.max IntKind.i64))
            (cond (leI (↑(ByteArray.size (mk [64] ++ mk (dig (Int.toNat (cI 0 (atL x8 x10))))) + 1) : Int) (IntKind.max IntKind.i64))
             (cond (leI 0 (wrapI IntKind.i64 (cI 1 (atL x8 x10) - cI 0 (atL x8 x10))) && leI (wrapI IntKind.i64 (cI 1 (atL x8 x10) - cI 0 (atL x8 x10))) 1000000000000000)
              (cond (leI (↑(ByteArray.size (mk [64] ++ mk (dig (Int.toNat (cI 0 (atL x8 x10)))) ++ mk [32]) + ByteArray.size (mk (dig (Int.toNat (wrapI IntKind.i64 (cI 1 (atL x8 x10) - cI 0 (atL x8 x10))))))) : Int) (IntKind.max IntKind.i64))
               (cond (leI (↑(ByteArray.size (mk [64] ++ mk (dig (Int.toNat (cI 0 (atL x8 x10)))) ++ mk [32] ++ mk (dig (Int.toNat (wrapI IntKind.i64 (cI 1 (atL x8 x10) - cI 0 (atL x8 x10)))))) + 1) : Int) (IntKind.max IntKind.i64))
                (cond (leI 0 (↑(List.length (cX 2 (atL x8 x10))) : Int) && leI (↑(List.length (cX 2 (atL x8 x10))) : Int) 1000000000000000)
                 (cond (leI (↑(ByteArray.size (mk [64] ++ mk (dig (Int.toNat (cI 0 (atL x8 x10)))) ++ mk [32] ++ mk (dig (Int.toNat (wrapI IntKind.i64 (cI 1 (atL x8 x10) - cI 0 (atL x8 x10))))) ++ mk [32]) + ByteArray.size (mk (dig (Int.toNat (↑(List.length (cX 2 (atL x8 x10))) : Int))))) : Int) (IntKind.max IntKind.i64))
                  (cond (leI (↑(ByteArray.size (mk [64] ++ mk (dig (Int.toNat (cI 0 (atL x8 x10)))) ++ mk [32] ++ mk (dig (Int.toNat (wrapI IntKind.i64 (cI 1 (atL x8 x10) - cI 0 (atL x8 x10))))) ++ mk [32] ++ mk (dig (Int.toNat (↑(List.length (cX 2 (atL x8 x10))) : Int)))) + 1) : Int) (IntKind.max IntKind.i64))
                   (cond (isBy h1 && Nat.ble (List.length h1 + ByteArray.size (mk [64] ++ mk (dig (Int.toNat (cI 0 (atL x8 x10)))) ++ mk [32] ++ mk (dig (Int.toNat (wrapI IntKind.i64 (cI 1 (atL x8 x10) - cI 0 (atL x8 x10))))) ++ mk [32] ++ mk (dig (Int.toNat (↑(List.length (cX 2 (atL x8 x10))) : Int))) ++ mk [10])) 100000000000)
                    (G (dPrint_q7 x8 x9 x10 (cX 2 (atL x8 x10)) ((↑(List.length (cX 2 (atL x8 x10))) : Int)) 0 (h1 ++ bytesOf (mk [64] ++ mk (dig (Int.toNat (cI 0 (atL x8 x10)))) ++ mk [32] ++ mk (dig (Int.toNat (wrapI IntKind.i64 (cI 1 (atL x8 x10) - cI 0 (atL x8 x10))))) ++ mk [32] ++ mk (dig (Int.toNat (↑(List.length (cX 2 (atL x8 x10))) : Int))) ++ mk [10]))))
                    none)
                   none)
                  none)
                 none)
                none)
               none)
              none)
             none)
            none)
           none))
         (both
          (dupN 1
           (cond (leI 0 (cI 0 (atL x8 x10)) && leI (cI 0 (atL x8 x10)) 1000000000000000)
            (cond (leI (↑(1 + ByteArray.size (mk (dig (Int.toNat (cI 0 (atL x8 x10)))))) : Int) (IntKind.max IntKind.i64))
             (cond (leI (↑(ByteArray.size (mk [64] ++ mk (dig (Int.toNat (cI 0 (atL x8 x10))))) + 1) : Int) (IntKind.max IntKind.i64))
              (cond (leI 0 (wrapI IntKind.i64 (cI 1 (atL x8 x10) - cI 0 (atL x8 x10))) && leI (wrapI IntKind.i64 (cI 1 (atL x8 x10) - cI 0 (atL x8 x10))) 1000000000000000)
               (cond (leI (↑(ByteArray.size (mk [64] ++ mk (dig (Int.toNat (cI 0 (atL x8 x10)))) ++ mk [32]) + ByteArray.size (mk (dig (Int.toNat (wrapI IntKind.i64 (cI 1 (atL x8 x10) - cI 0 (atL x8 x10))))))) : Int) (IntKind.max IntKind.i64))
                (cond (leI (↑(ByteArray.size (mk [64] ++ mk (dig (Int.toNat (cI 0 (atL x8 x10)))) ++ mk [32] ++ mk (dig (Int.toNat (wrapI IntKind.i64 (cI 1 (atL x8 x10) - cI 0 (atL x8 x10)))))) + 1) : Int) (IntKind.max IntKind.i64))
                 (cond (leI 0 (↑(List.length (cX 2 (atL x8 x10))) : Int) && leI (↑(List.length (cX 2 (atL x8 x10))) : Int) 1000000000000000)
                  (cond (leI (↑(ByteArray.size (mk [64] ++ mk (dig (Int.toNat (cI 0 (atL x8 x10)))) ++ mk [32] ++ mk (dig (Int.toNat (wrapI IntKind.i64 (cI 1 (atL x8 x10) - cI 0 (atL x8 x10))))) ++ mk [32]) + ByteArray.size (mk (dig (Int.toNat (↑(List.length (cX 2 (atL x8 x10))) : Int))))) : Int) (IntKind.max IntKind.i64))
                   (cond (leI (↑(ByteArray.size (mk [64] ++ mk (dig (Int.toNat (cI 0 (atL x8 x10)))) ++ mk [32] ++ mk (dig (Int.toNat (wrapI IntKind.i64 (cI 1 (atL x8 x10) - cI 0 (atL x8 x10))))) ++ mk [32] ++ mk (dig (Int.toNat (↑(List.length (cX 2 (atL x8 x10))) : Int)))) + 1) : Int) (IntKind.max IntKind.i64))
                    (cond (isBy h1 && Nat.ble (List.length h1 + ByteArray.size (mk [64] ++ mk (dig (Int.toNat (cI 0 (atL x8 x10)))) ++ mk [32] ++ mk (dig (Int.toNat (wrapI IntKind.i64 (cI 1 (atL x8 x10) - cI 0 (atL x8 x10))))) ++ mk [32] ++ mk (dig (Int.toNat (↑(List.length (cX 2 (atL x8 x10))) : Int))) ++ mk [10])) 100000000000)
                     (G (dPrint_q7 x8 x9 x10 (cX 2 (atL x8 x10)) ((↑(List.length (cX 2 (atL x8 x10))) : Int)) 0 (h1 ++ bytesOf (mk [64] ++ mk (dig (Int.toNat (cI 0 (atL x8 x10)))) ++ mk [32] ++ mk (dig (Int.toNat (wrapI IntKind.i64 (cI 1 (atL x8 x10) - cI 0 (atL x8 x10))))) ++ mk [32] ++ mk (dig (Int.toNat (↑(List.length (cX 2 (atL x8 x10))) : Int))) ++ mk [10]))))
                     none)
                    none)
                   none)
                  none)
                 none)
                none)
               none)
              none)
             none)
            none))
          (cond (leI 0 (cI 0 (atL x8 x10)) && leI (cI 0 (atL x8 x10)) 1000000000000000)
           (cond (leI (↑(1 + ByteArray.size (mk (dig (Int.toNat (cI 0 (atL x8 x10)))))) : Int) (IntKind.max IntKind.i64))
            (cond (leI (↑(ByteArray.size (mk [64] ++ mk (dig (Int.toNat (cI 0 (atL x8 x10))))) + 1) : Int) (IntKind.max IntKind.i64))
             (cond (leI 0 (wrapI IntKind.i64 (cI 1 (atL x8 x10) - cI 0 (atL x8 x10))) && leI (wrapI IntKind.i64 (cI 1 (atL x8 x10) - cI 0 (atL x8 x10))) 1000000000000000)
              (cond (leI (↑(ByteArray.size (mk [64] ++ mk (dig (Int.toNat (cI 0 (atL x8 x10)))) ++ mk [32]) + ByteArray.size (mk (dig (Int.toNat (wrapI IntKind.i64 (cI 1 (atL x8 x10) - cI 0 (atL x8 x10))))))) : Int) (IntKind.max IntKind.i64))
               (cond (leI (↑(ByteArray.size (mk [64] ++ mk (dig (Int.toNat (cI 0 (atL x8 x10)))) ++ mk [32] ++ mk (dig (Int.toNat (wrapI IntKind.i64 (cI 1 (atL x8 x10) - cI 0 (atL x8 x10)))))) + 1) : Int) (IntKind.max IntKind.i64))
                (cond (leI 0 (↑(List.length (cX 2 (atL x8 x10))) : Int) && leI (↑(List.length (cX 2 (atL x8 x10))) : Int) 1000000000000000)
                 (cond (leI (↑(ByteArray.size (mk [64] ++ mk (dig (Int.toNat (cI 0 (atL x8 x10)))) ++ mk [32] ++ mk (dig (Int.toNat (wrapI IntKind.i64 (cI 1 (atL x8 x10) - cI 0 (atL x8 x10))))) ++ mk [32]) + ByteArray.size (mk (dig (Int.toNat (↑(List.length (cX 2 (atL x8 x10))) : Int))))) : Int) (IntKind.max IntKind.i64))
                  (cond (leI (↑(ByteArray.size (mk [64] ++ mk (dig (Int.toNat (cI 0 (atL x8 x10)))) ++ mk [32] ++ mk (dig (Int.toNat (wrapI IntKind.i64 (cI 1 (atL x8 x10) - cI 0 (atL x8 x10))))) ++ mk [32] ++ mk (dig (Int.toNat (↑(List.length (cX 2 (atL x8 x10))) : Int)))) + 1) : Int) (IntKind.max IntKind.i64))
                   (cond (isBy h1 && Nat.ble (List.length h1 + ByteArray.size (mk [64] ++ mk (dig (Int.toNat (cI 0 (atL x8 x10)))) ++ mk [32] ++ mk (dig (Int.toNat (wrapI IntKind.i64 (cI 1 (atL x8 x10) - cI 0 (atL x8 x10))))) ++ mk [32] ++ mk (dig (Int.toNat (↑(List.length (cX 2 (atL x8 x10))) : Int))) ++ mk [10])) 100000000000)
                    (G (dPrint_q7 x8 x9 x10 (cX 2 (atL x8 x10)) ((↑(List.length (cX 2 (atL x8 x10))) : Int)) 0 (h1 ++ bytesOf (mk [64] ++ mk (dig (Int.toNat (cI 0 (atL x8 x10)))) ++ mk [32] ++ mk (dig (Int.toNat (wrapI IntKind.i64 (cI 1 (atL x8 x10) - cI 0 (atL x8 x10))))) ++ mk [32] ++ mk (dig (Int.toNat (↑(List.length (cX 2 (atL x8 x10))) : Int))) ++ mk [10]))))
                    none)
                   none)
                  none)
                 none)
                none)
               none)
              none)
             none)
            none)
           none))))
       (both
        (both
         (cond (leI 0 (cI 0 (atL x8 x10)) && leI (cI 0 (atL x8 x10)) 1000000000000000)
          (cond (leI (↑(1 + ByteArray.size (mk (dig (Int.toNat (cI 0 (atL x8 x10)))))) : Int) (IntKind.max IntKind.i64))
           (cond (leI (↑(ByteArray.size (mk [64] ++ mk (dig (Int.toNat (cI 0 (atL x8 x10))))) + 1) : Int) (IntKind.max IntKind.i64))
            (cond (leI 0 (wrapI IntKind.i64 (cI 1 (atL x8 x10) - cI 0 (atL x8 x10))) && leI (wrapI IntKind.i64 (cI 1 (atL x8 x10) - cI 0 (atL x8 x10))) 1000000000000000)
             (cond (leI (↑(ByteArray.size (mk [64] ++ mk (dig (Int.toNat (cI 0 (atL x8 x10)))) ++ mk [32]) + ByteArray.size (mk (dig (Int.toNat (wrapI IntKind.i64 (cI 1 (atL x8 x10) - cI 0 (atL x8 x10))))))) : Int) (IntKind.max IntKind.i64))
              (cond (leI (↑(ByteArray.size (mk [64] ++ mk (dig (Int.toNat (cI 0 (atL x8 x10)))) ++ mk [32] ++ mk (dig (Int.toNat (wrapI IntKind.i64 (cI 1 (atL x8 x10) - cI 0 (atL x8 x10)))))) + 1) : Int) (IntKind.max IntKind.i64))
               (cond (leI 0 (↑(List.length (cX 2 (atL x8 x10))) : Int) && leI (↑(List.length (cX 2 (atL x8 x10))) : Int) 1000000000000000)
                (cond (leI (↑(ByteArray.size (mk [64] ++ mk (dig (Int.toNat (cI 0 (atL x8 x10)))) ++ mk [32] ++ mk (dig (Int.toNat (wrapI IntKind.i64 (cI 1 (atL x8 x10) - cI 0 (atL x8 x10))))) ++ mk [32]) + ByteArray.size (mk (dig (Int.toNat (↑(List.length (cX 2 (atL x8 x10))) : Int))))) : Int) (IntKind.max IntKind.i64))
                 (cond (leI (↑(ByteArray.size (mk [64] ++ mk (dig (Int.toNat (cI 0 (atL x8 x10)))) ++ mk [32] ++ mk (dig (Int.toNat (wrapI IntKind.i64 (cI 1 (atL x8 x10) - cI 0 (atL x8 x10))))) ++ mk [32] ++ mk (dig (Int.toNat (↑(List.length (cX 2 (atL x8 x10))) : Int)))) + 1) : Int) (IntKind.max IntKind.i64))
                  (cond (isBy h1 && Nat.ble (List.length h1 + ByteArray.size (mk [64] ++ mk (dig (Int.toNat (cI 0 (atL x8 x10)))) ++ mk [32] ++ mk (dig (Int.toNat (wrapI IntKind.i64 (cI 1 (atL x8 x10) - cI 0 (atL x8 x10))))) ++ mk [32] ++ mk (dig (Int.toNat (↑(List.length (cX 2 (atL x8 x10))) : Int))) ++ mk [10])) 100000000000)
                   (G (dPrint_q7 x8 x9 x10 (cX 2 (atL x8 x10)) ((↑(List.length (cX 2 (atL x8 x10))) : Int)) 0 (h1 ++ bytesOf (mk [64] ++ mk (dig (Int.toNat (cI 0 (atL x8 x10)))) ++ mk [32] ++ mk (dig (Int.toNat (wrapI IntKind.i64 (cI 1 (atL x8 x10) - cI 0 (atL x8 x10))))) ++ mk [32] ++ mk (dig (Int.toNat (↑(List.length (cX 2 (atL x8 x10))) : Int))) ++ mk [10]))))
                   none)
                  none)
                 none)
                none)
               none)
              none)
             none)
            none)
           none)
          none)
         (dupN 1
          (dupN 1
           (cond (leI 0 (cI 0 (atL x8 x10)) && leI (cI 0 (atL x8 x10)) 1000000000000000)
            (cond (leI (↑(1 + ByteArray.size (mk (dig (Int.toNat (cI 0 (atL x8 x10)))))) : Int) (IntKind.max IntKind.i64))
             (cond (leI (↑(ByteArray.size (mk [64] ++ mk (dig (Int.toNat (cI 0 (atL x8 x10))))) + 1) : Int) (IntKind.max IntKind.i64))
              (cond (leI 0 (wrapI IntKind.i64 (cI 1 (atL x8 x10) - cI 0 (atL x8 x10))) && leI (wrapI IntKind.i64 (cI 1 (atL x8 x10) - cI 0 (atL x8 x10))) 1000000000000000)
               (cond (leI (↑(ByteArray.size (mk [64] ++ mk (dig (Int.toNat (cI 0 (atL x8 x10)))) ++ mk [32]) + ByteArray.size (mk (dig (Int.toNat (wrapI IntKind.i64 (cI 1 (atL x8 x10) - cI 0 (atL x8 x10))))))) : Int) (IntKind.max IntKind.i64))
                (cond (leI (↑(ByteArray.size (mk [64] ++ mk (dig (Int.toNat (cI 0 (atL x8 x10)))) ++ mk [32] ++ mk (dig (Int.toNat (wrapI IntKind.i64 (cI 1 (atL x8 x10) - cI 0 (atL x8 x10)))))) + 1) : Int) (IntKind.max IntKind.i64))
                 (cond (leI 0 (↑(List.length (cX 2 (atL x8 x10))) : Int) && leI (↑(List.length (cX 2 (atL x8 x10))) : Int) 1000000000000000)
                  (cond (leI (↑(ByteArray.size (mk [64] ++ mk (dig (Int.toNat (cI 0 (atL x8 x10)))) ++ mk [32] ++ mk (dig (Int.toNat (wrapI IntKind.i64 (cI 1 (atL x8 x10) - cI 0 (atL x8 x10))))) ++ mk [32]) + ByteArray.size (mk (dig (Int.toNat (↑(List.length (cX 2 (atL x8 x10))) : Int))))) : Int) (IntKind.max IntKind.i64))
                   (cond (leI (↑(ByteArray.size (mk [64] ++ mk (dig (Int.toNat (cI 0 (atL x8 x10)))) ++ mk [32] ++ mk (dig (Int.toNat (wrapI IntKind.i64 (cI 1 (atL x8 x10) - cI 0 (atL x8 x10))))) ++ mk [32] ++ mk (dig (Int.toNat (↑(List.length (cX 2 (atL x8 x10))) : Int)))) + 1) : Int) (IntKind.max IntKind.i64))
                    (cond (isBy h1 && Nat.ble (List.length h1 + ByteArray.size (mk [64] ++ mk (dig (Int.toNat (cI 0 (atL x8 x10)))) ++ mk [32] ++ mk (dig (Int.toNat (wrapI IntKind.i64 (cI 1 (atL x8 x10) - cI 0 (atL x8 x10))))) ++ mk [32] ++ mk (dig (Int.toNat (↑(List.length (cX 2 (atL x8 x10))) : Int))) ++ mk [10])) 100000000000)
                     (G (dPrint_q7 x8 x9 x10 (cX 2 (atL x8 x10)) ((↑(List.length (cX 2 (atL x8 x10))) : Int)) 0 (h1 ++ bytesOf (mk [64] ++ mk (dig (Int.toNat (cI 0 (atL x8 x10)))) ++ mk [32] ++ mk (dig (Int.toNat (wrapI IntKind.i64 (cI 1 (atL x8 x10) - cI 0 (atL x8 x10))))) ++ mk [32] ++ mk (dig (Int.toNat (↑(List.length (cX 2 (atL x8 x10))) : Int))) ++ mk [10]))))
                     none)
                    none)
                   none)
                  none)
                 none)
                none)
               none)
              none)
             none)
            none))))
        (dupN 1
         (both
          (dupN 1
           (cond (leI 0 (cI 0 (atL x8 x10)) && leI (cI 0 (atL x8 x10)) 1000000000000000)
            (cond (leI (↑(1 + ByteArray.size (mk (dig (Int.toNat (cI 0 (atL x8 x10)))))) : Int) (IntKind.max IntKind.i64))
             (cond (leI (↑(ByteArray.size (mk [64] ++ mk (dig (Int.toNat (cI 0 (atL x8 x10))))) + 1) : Int) (IntKind.max IntKind.i64))
              (cond (leI 0 (wrapI IntKind.i64 (cI 1 (atL x8 x10) - cI 0 (atL x8 x10))) && leI (wrapI IntKind.i64 (cI 1 (atL x8 x10) - cI 0 (atL x8 x10))) 1000000000000000)
               (cond (leI (↑(ByteArray.size (mk [64] ++ mk (dig (Int.toNat (cI 0 (atL x8 x10)))) ++ mk [32]) + ByteArray.size (mk (dig (Int.toNat (wrapI IntKind.i64 (cI 1 (atL x8 x10) - cI 0 (atL x8 x10))))))) : Int) (IntKind.max IntKind.i64))
                (cond (leI (↑(ByteArray.size (mk [64] ++ mk (dig (Int.toNat (cI 0 (atL x8 x10)))) ++ mk [32] ++ mk (dig (Int.toNat (wrapI IntKind.i64 (cI 1 (atL x8 x10) - cI 0 (atL x8 x10)))))) + 1) : Int) (IntKind.max IntKind.i64))
                 (cond (leI 0 (↑(List.length (cX 2 (atL x8 x10))) : Int) && leI (↑(List.length (cX 2 (atL x8 x10))) : Int) 1000000000000000)
                  (cond (leI (↑(ByteArray.size (mk [64] ++ mk (dig (Int.toNat (cI 0 (atL x8 x10)))) ++ mk [32] ++ mk (dig (Int.toNat (wrapI IntKind.i64 (cI 1 (atL x8 x10) - cI 0 (atL x8 x10))))) ++ mk [32]) + ByteArray.size (mk (dig (Int.toNat (↑(List.length (cX 2 (atL x8 x10))) : Int))))) : Int) (IntKind.max IntKind.i64))
                   (cond (leI (↑(ByteArray.size (mk [64] ++ mk (dig (Int.toNat (cI 0 (atL x8 x10)))) ++ mk [32] ++ mk (dig (Int.toNat (wrapI IntKind.i64 (cI 1 (atL x8 x10) - cI 0 (atL x8 x10))))) ++ mk [32] ++ mk (dig (Int.toNat (↑(List.length (cX 2 (atL x8 x10))) : Int)))) + 1) : Int) (IntKind.max IntKind.i64))
                    (cond (isBy h1 && Nat.ble (List.length h1 + ByteArray.size (mk [64] ++ mk (dig (Int.toNat (cI 0 (atL x8 x10)))) ++ mk [32] ++ mk (dig (Int.toNat (wrapI IntKind.i64 (cI 1 (atL x8 x10) - cI 0 (atL x8 x10))))) ++ mk [32] ++ mk (dig (Int.toNat (↑(List.length (cX 2 (atL x8 x10))) : Int))) ++ mk [10])) 100000000000)
                     (G (dPrint_q7 x8 x9 x10 (cX 2 (atL x8 x10)) ((↑(List.length (cX 2 (atL x8 x10))) : Int)) 0 (h1 ++ bytesOf (mk [64] ++ mk (dig (Int.toNat (cI 0 (atL x8 x10)))) ++ mk [32] ++ mk (dig (Int.toNat (wrapI IntKind.i64 (cI 1 (atL x8 x10) - cI 0 (atL x8 x10))))) ++ mk [32] ++ mk (dig (Int.toNat (↑(List.length (cX 2 (atL x8 x10))) : Int))) ++ mk [10]))))
                     none)
                    none)
                   none)
                  none)
                 none)
                none)
               none)
              none)
             none)
            none))
          (cond (leI 0 (cI 0 (atL x8 x10)) && leI (cI 0 (atL x8 x10)) 1000000000000000)
           (cond (leI (↑(1 + ByteArray.size (mk (dig (Int.toNat (cI 0 (atL x8 x10)))))) : Int) (IntKind.max IntKind.i64))
            (cond (leI (↑(ByteArray.size (mk [64] ++ mk (dig (Int.toNat (cI 0 (atL x8 x10))))) + 1) : Int) (IntKind.max IntKind.i64))
             (cond (leI 0 (wrapI IntKind.i64 (cI 1 (atL x8 x10) - cI 0 (atL x8 x10))) && leI (wrapI IntKind.i64 (cI 1 (atL x8 x10) - cI 0 (atL x8 x10))) 1000000000000000)
              (cond (leI (↑(ByteArray.size (mk [64] ++ mk (dig (Int.toNat (cI 0 (atL x8 x10)))) ++ mk [32]) + ByteArray.size (mk (dig (Int.toNat (wrapI IntKind.i64 (cI 1 (atL x8 x10) - cI 0 (atL x8 x10))))))) : Int) (IntKind.max IntKind.i64))
               (cond (leI (↑(ByteArray.size (mk [64] ++ mk (dig (Int.toNat (cI 0 (atL x8 x10)))) ++ mk [32] ++ mk (dig (Int.toNat (wrapI IntKind.i64 (cI 1 (atL x8 x10) - cI 0 (atL x8 x10)))))) + 1) : Int) (IntKind.max IntKind.i64))
                (cond (leI 0 (↑(List.length (cX 2 (atL x8 x10))) : Int) && leI (↑(List.length (cX 2 (atL x8 x10))) : Int) 1000000000000000)
                 (cond (leI (↑(ByteArray.size (mk [64] ++ mk (dig (Int.toNat (cI 0 (atL x8 x10)))) ++ mk [32] ++ mk (dig (Int.toNat (wrapI IntKind.i64 (cI 1 (atL x8 x10) - cI 0 (atL x8 x10))))) ++ mk [32]) + ByteArray.size (mk (dig (Int.toNat (↑(List.length (cX 2 (atL x8 x10))) : Int))))) : Int) (IntKind.max IntKind.i64))
                  (cond (leI (↑(ByteArray.size (mk [64] ++ mk (dig (Int.toNat (cI 0 (atL x8 x10)))) ++ mk [32] ++ mk (dig (Int.toNat (wrapI IntKind.i64 (cI 1 (atL x8 x10) - cI 0 (atL x8 x10))))) ++ mk [32] ++ mk (dig (Int.toNat (↑(List.length (cX 2 (atL x8 x10))) : Int)))) + 1) : Int) (IntKind.max IntKind.i64))
                   (cond (isBy h1 && Nat.ble (List.length h1 + ByteArray.size (mk [64] ++ mk (dig (Int.toNat (cI 0 (atL x8 x10)))) ++ mk [32] ++ mk (dig (Int.toNat (wrapI IntKind.i64 (cI 1 (atL x8 x10) - cI 0 (atL x8 x10))))) ++ mk [32] ++ mk (dig (Int.toNat (↑(List.length (cX 2 (atL x8 x10))) : Int))) ++ mk [10])) 100000000000)
                    (G (dPrint_q7 x8 x9 x10 (cX 2 (atL x8 x10)) ((↑(List.length (cX 2 (atL x8 x10))) : Int)) 0 (h1 ++ bytesOf (mk [64] ++ mk (dig (Int.toNat (cI 0 (atL x8 x10)))) ++ mk [32] ++ mk (dig (Int.toNat (wrapI IntKind.i64 (cI 1 (atL x8 x10) - cI 0 (atL x8 x10))))) ++ mk [32] ++ mk (dig (Int.toNat (↑(List.length (cX 2 (atL x8 x10))) : Int))) ++ mk [10]))))
                    none)
                   none)
                  none)
                 none)
                none)
               none)
              none)
             none)
            none)
           none)))))))
    none)
   (cond (isBy h1 && Nat.ble (List.length h1) 100000000000)
    (some [(.str (mk (dB h1)))])
    none)) := by kernel_rfl
theorem dPrint_p7 (G : Req → R) (x8 : List (List L)) (x9 : Int) (x10 : Int) (x35 : List (List L)) (x36 : Int) (x37 : Int) (h1 : List (List L)) : runB (cfg [k_ws, k_Itoa, k_bs]) G (dPrint_q7 x8 x9 x10 x35 x36 x37 h1) =
  (cond (ltI x37 x36)
   (cond (leI 0 x37 && ltI x37 (↑(List.length x35) : Int))
    (cond (leI (↑(1 + ByteArray.size (cT 0 (atL x35 x37))) : Int) (IntKind.max IntKind.i64))
     (cond (leI (↑(ByteArray.size (mk [43] ++ cT 0 (atL x35 x37)) + 1) : Int) (IntKind.max IntKind.i64))
      (cond (isBy h1 && Nat.ble (List.length h1 + ByteArray.size (mk [43] ++ cT 0 (atL x35 x37) ++ mk [10])) 100000000000)
       (G (dPrint_q7 x8 x9 x10 x35 x36 (wrapI IntKind.i64 (x37 + 1)) (h1 ++ bytesOf (mk [43] ++ cT 0 (atL x35 x37) ++ mk [10]))))
       none)
      none)
     none)
    none)
   (G (dPrint_q3 x8 x9 (wrapI IntKind.i64 (x10 + 1)) h1))) := by kernel_rfl

end Go.Ab
namespace Go.Ab
open Go.Proofs

theorem args_i {C : Cfg} {w : World} {fz : Fz} {ρ : Rho} {vs : Array Value} {k : IntKind} {c : Int} (h : RepDs (Rep C.P w fz ρ) vs.toList [.lf (.int k c)]) : vs = #[.int k c] := by
  match hv : vs.toList, h with
  | [a], h =>
    simp only [RepDs, RepD] at h
    rw [arr1 hv, rep_int h.1]
theorem args_ss {C : Cfg} {w : World} {fz : Fz} {ρ : Rho} {vs : Array Value} {s p : ByteArray} (h : RepDs (Rep C.P w fz ρ) vs.toList [.lf (.str s), .lf (.str p)]) : vs = #[.string s, .string p] := by
  match hv : vs.toList, h with
  | [a, b], h =>
    simp only [RepDs, RepD] at h
    rw [arr2 hv, rep_str h.1, rep_str h.2.1]
theorem digF_eq : ∀ (f n : Nat), n < 10 ^ f → 0 < f → digF f n = Lib.decDigits n
  | 0, n, _, h => by omega
  | f + 1, n, h, _ => by
    rw [digF, Lib.decDigits]
    by_cases h1 : n < 10
    · rw [if_pos h1, dif_pos h1, List.nil_append, Nat.mod_eq_of_lt h1]
    · rw [if_neg h1, dif_neg h1]
      have hf : 0 < f := by
        rcases Nat.eq_zero_or_pos f with rfl | h2
        · simp at h; omega
        · exact h2
      rw [digF_eq f (n / 10) (by rw [Nat.pow_succ] at h; omega) hf]
theorem dig_eq {n : Nat} (h : n ≤ 1000000000000000) : Lib.itoa (n : Int) = dig n := by
  unfold dig Lib.itoa
  have hp : (10 : Nat) ^ 20 = 100000000000000000000 := by decide
  rw [if_neg (by omega), Int.toNat_natCast, digF_eq 20 n (by rw [hp]; omega) (by decide)]
theorem Itoa_holds : Holds k_Itoa := extFor_tabs (C := cfg []) (fn := Tryd.f47) (t := 9) (k := .str) Tryd.func47 rfl kinds9 agg9 (by simp) fun aa hp r h => by
  simp only [k_Itoa] at h
  split at h
  case h_2 => cases h
  rename_i n
  obtain ⟨g, rfl⟩ := xo h
  rw [Bool.and_eq_true] at g
  have g1 := leI_t g.1
  have g2 := leI_t g.2
  refine ⟨_, rfl, rfl, ⟨_, rfl⟩, fun w fz ρ vs ht ha => ⟨_, fun w' => .str _, ?_⟩⟩
  rw [args_i ha]
  obtain ⟨m, rfl⟩ := Int.eq_ofNat_of_zero_le g1
  have htab : Lib.TabIs Tryd.prog w "internal/strconv.uint64pow10" .u64 Lib.pow10Tab := by
    obtain ⟨cs, h1, h2⟩ := ht ("internal/strconv.uint64pow10", fun cs => cs = (Lib.pow10Tab.map fun z => Value.int .u64 z).toArray) (by
      show _ ∈ tabsL
      simp [tabsL])
    have h2' : cs = (Lib.pow10Tab.map fun z => Value.int .u64 z).toArray := h2
    subst h2'
    exact h1
  refine (Tryd.strconv_Itoa (m : Int) (by omega) (by omega) w htab).mono ?_
  rintro e w' ⟨rfl, k, os, rfl⟩
  rw [dig_eq (by omega), Int.toNat_natCast]
  exact ⟨rfl, Lib.below_grow _ _ (Nat.le_refl _) _ _⟩
theorem hasP_l : ∀ (p s : List UInt8), (s.take p.length == p) = p.isPrefixOf s
  | [], s => by simp
  | c :: p, [] => by simp [List.isPrefixOf]
  | c :: p, x :: s => by
    have ih := hasP_l p s
    simp only [List.length_cons, List.take_succ_cons, List.isPrefixOf, ← ih]
    show ((x :: List.take p.length s) == c :: p) = _
    rw [Bool.eq_iff_iff, Bool.and_eq_true, beq_iff_eq, beq_iff_eq, beq_iff_eq, List.cons.injEq]
    exact ⟨fun h => ⟨h.1.symm, h.2⟩, fun h => ⟨h.1.symm, h.2⟩⟩
theorem isPre_len : ∀ (p s : List UInt8), p.isPrefixOf s = true → p.length ≤ s.length
  | [], _, _ => Nat.zero_le _
  | c :: p, [], h => by simp [List.isPrefixOf] at h
  | c :: p, x :: s, h => by
    simp only [List.isPrefixOf, Bool.and_eq_true] at h
    have := isPre_len p s h.2
    simp only [List.length_cons]; omega

theorem lhasP_holds : Holds k_lhasP := con_run (xs := []) hold0 fun aa hp r h => by
  simp only [k_hasP] at h
  split at h
  case h_2 => cases h
  rename_i s p
  obtain ⟨g, rfl⟩ := xo h
  obtain ⟨s, rfl⟩ := str_cases s
  obtain ⟨p, rfl⟩ := str_cases p
  refine Runs.by (lhasP_e · _ _) ?_
  simp only [size_mk, bl_mk]
  by_cases hl : p.length ≤ s.length
  · simp (disch := omega) only [ev_le_t, cond_true, Bool.and_self, Int.toNat_natCast, ext_mk, bl_mk, List.drop_zero]
    rw [hasP_l]
    exact .ret
  · simp (disch := omega) only [ev_le_f, cond_false]
    have : p.isPrefixOf s = false := by
      rw [← Bool.not_eq_true]
      intro h
      exact hl (isPre_len p s h)
    rw [this]
    exact .ret
theorem ws_holds : Holds k_ws := con_run (xs := [k_cc]) (hold1 cc_holds hold0) fun aa hp r h => by
  split at h
  case h_2 => cases h
  rename_i s xs
  obtain ⟨g, rfl⟩ := xo h
  rw [Bool.and_eq_true] at g
  have hl := Nat.le_of_ble_eq_true g.2
  refine Runs.by (wstr_e · _ _) ?_
  have e : (bytesOf s).length = s.size := by rw [bytesOf_e]; simp only [eB, List.length_map]; exact bl_size s
  rw [e, roomN_t (by omega) (by omega)]
  exact .ret

/-! ### cutting -/
theorem index_ne (x c : UInt8) (l : List UInt8) (h : x ≠ c) : Lib.index (x :: l) [c] = if Lib.index l [c] = -1 then -1 else Lib.index l [c] + 1 := by
  rw [Lib.index_one, Lib.index_one, Lib.indexByte]
  have : (x == c) = false := by simpa using h
  rw [this]
  simp only [Bool.false_eq_true, if_false, beq_iff_eq]
theorem index_eq' (c : UInt8) (l : List UInt8) : Lib.index (c :: l) [c] = 0 := by
  rw [Lib.index_one, Lib.indexByte]
  simp
theorem splitK_spl (c : UInt8) : ∀ (l : List UInt8), Lib.splitK [c] 0 (Lib.count l [c]) l = spl c l
  | [] => by
    rw [Lib.count_miss (by rfl)]
    rfl
  | x :: l => by
    have ih := splitK_spl c l
    by_cases h : x = c
    · subst h
      have hi := index_eq' x l
      rw [Lib.count_hit (i := 0) (by simp) hi]
      simp only [Nat.zero_add, List.length_singleton, List.drop_succ_cons, List.drop_zero]
      rw [Nat.add_comm 1, Lib.splitK, hi, spl, if_pos rfl]
      simp [ih]
    · have hi := index_ne x c l h
      rw [spl, if_neg h]
      by_cases hm : Lib.index l [c] = -1
      · rw [if_pos hm] at hi
        rw [Lib.count_miss hm] at ih
        rw [Lib.count_miss hi, Lib.splitK, ← ih, Lib.splitK]
      · rw [if_neg hm] at hi
        obtain ⟨i, hi'⟩ : ∃ i : Nat, Lib.index l [c] = i := by
          have := Lib.index_ge l [c]
          exact ⟨(Lib.index l [c]).toNat, by omega⟩
        rw [hi'] at hi
        have hi2 : Lib.index (x :: l) [c] = ((i + 1 : Nat) : Int) := by omega
        rw [Lib.count_hit (by simp) hi2, Nat.add_comm 1, Lib.splitK, hi2]
        rw [Lib.count_hit (by simp) hi', Nat.add_comm 1, Lib.splitK, hi'] at ih
        have e1 : ((((i + 1 : Nat) : Int)) == -1) = false := by simp; omega
        have e2 : (((i : Nat) : Int) == -1) = false := by simp
        simp only [e1, e2, Bool.false_eq_true, if_false, Int.toNat_natCast, Nat.add_zero, List.length_singleton] at ih ⊢
        rw [← ih]
        simp only [List.take_succ_cons, List.drop_succ_cons]
end Go.Ab
namespace Go.Ab
open Go.Proofs
/-! strings.HasPrefix -/
theorem hasP_e (G : Req → R) (s0 : ByteArray) (prefix1 : ByteArray) : runB (cfg [k_lhasP]) G (.enter 52 [(.lf (.str (s0))), (.lf (.str (prefix1)))] []) =
  (cond (Nat.ble (ByteArray.size s0) 1000000000 && Nat.ble (ByteArray.size prefix1) 1000000000)
   (some [(.bool (List.isPrefixOf (bl prefix1) (bl s0)))])
   none) := by kernel_rfl

/-! codesearch/diff.head -/
noncomputable def head_q8 (w5 : List (List L)) (x20 : Int) (h0_0 : Int) (h0_1 : Int) (h0_2 : Int) (h1_0 : Int) (h1_1 : Int) (h1_2 : Int) : Req := .point 51 [] (todoAt Tryd.prog 51 8) ⟨[an, an, (.lf (.ptr 0 0)), an, (.lf (.ptr 1 0)), (.lf (.lst 9 w5)), an, an, an, an, an, an, an, an, an, an, an, an, an, an, (.lf (.int IntKind.i64 x20)), an, an, an, an, an, an, an, an, an, an, an, an, an, an, an, an, an, an], [(.box [(.int IntKind.i64), (.int IntKind.i64), (.int IntKind.i64)] [(.int IntKind.i64 h0_0), (.int IntKind.i64 h0_1), (.int IntKind.i64 h0_2)]), (.box [(.int IntKind.i64), (.int IntKind.i64), (.int IntKind.i64)] [(.int IntKind.i64 h1_0), (.int IntKind.i64 h1_1), (.int IntKind.i64 h1_2)])]⟩
theorem head_e (G : Req → R) (s0 : ByteArray) : runB (cfg [k_Split, k_number, k_hasP]) G (.enter 51 [(.lf (.str (s0)))] []) =
  (cond (Nat.ble (ByteArray.size s0) 1000000000 && true)
   (cond (!List.isPrefixOf (bl (mk [64])) (bl s0))
    (some [(.int IntKind.i64 (0)), (.int IntKind.i64 (0)), (.int IntKind.i64 (0)), (.bool (false))])
    (cond (leI 1 (↑(ByteArray.size s0) : Int))
     (cond (Nat.ble (ByteArray.size (ByteArray.extract s0 1 (ByteArray.size s0))) 1000000000 && true)
      (cond ((↑(List.length (eSs (spl (List.getD (bl (mk [32])) 0 0) (bl (ByteArray.extract s0 1 (ByteArray.size s0)))))) : Int) != 3)
       (some [(.int IntKind.i64 (0)), (.int IntKind.i64 (0)), (.int IntKind.i64 (0)), (.bool (false))])
       (G (head_q8 (eSs (spl (List.getD (bl (mk [32])) 0 0) (bl (ByteArray.extract s0 1 (ByteArray.size s0))))) 0 0 0 0 0 0 0)))
      none)
     none))
   none) := by kernel_rfl
theorem head_p8 (G : Req → R) (w5 : List (List L)) (x20 : Int) (h0_0 : Int) (h0_1 : Int) (h0_2 : Int) (h1_0 : Int) (h1_1 : Int) (h1_2 : Int) : runB (cfg [k_Split, k_number, k_hasP]) G (head_q8 w5 x20 h0_0 h0_1 h0_2 h1_0 h1_1 h1_2) =
  (cond (ltI x20 3)
   (cond (leI 0 x20 && ltI x20 (↑(List.length w5) : Int))
    (cond (sm (List.length (bl (cT 0 (atL w5 x20)))))
     (cond (!numOk (bl (cT 0 (atL w5 x20))))
      (some [(.int IntKind.i64 (h1_0)), (.int IntKind.i64 (h1_1)), (.int IntKind.i64 (h1_2)), (.bool (false))])
      (cond (leI 0 x20 && ltI x20 (↑3 : Int))
       (G (head_q8 w5 (wrapI IntKind.i64 (x20 + 1)) h0_0 h0_1 h0_2 (bif Nat.beq 0 (Int.toNat x20) then numR (bl (cT 0 (atL w5 x20))) else h1_0) (bif Nat.beq 1 (Int.toNat x20) then numR (bl (cT 0 (atL w5 x20))) else h1_1) (bif Nat.beq 2 (Int.toNat x20) then numR (bl (cT 0 (atL w5 x20))) else h1_2)))
       none))
     none)
    none)
   (some [(.int IntKind.i64 (h1_0)), (.int IntKind.i64 (h1_1)), (.int IntKind.i64 (h1_2)), (.bool (true))])) := by kernel_rfl

end Go.Ab
namespace Go.Ab
/-- Hunks in order behind line x. -/
def RQ (n : Int) : Int → List Hk → Prop
  | x, [] => x ≤ n
  | x, h :: l => x < h.fr ∧ h.fr ≤ h.to ∧ h.to ≤ n ∧ ¬ (h.fr = h.to ∧ h.ls = []) ∧ RQ n h.to l
theorem rightG_some {n : Int} : ∀ {l : List Hk} {x : Int}, -1 ≤ x → x ≤ n → (rightG n (some x) l = 0 ↔ RQ n x l)
  | [], x, h0, hx => by simp [rightG, RQ, hx]
  | h :: l, x, h0, hx => by
    rw [rightG_cons]
    simp only [RQ, prevLe]
    by_cases c1 : h.fr < 0 ∨ h.to < h.fr ∨ n < h.to
    · have e : (ltI h.fr 0 || (ltI h.to h.fr || ltI n h.to)) = true := by simp only [Bool.or_eq_true, ltI_eq, decide_eq_true_eq]; omega
      rw [e]
      simp only [cond_true]
      constructor
      · intro h; cases h
      · rintro ⟨a, b, c, _⟩; omega
    · have e : (ltI h.fr 0 || (ltI h.to h.fr || ltI n h.to)) = false := by simp only [Bool.or_eq_false_iff, ltI_eq, decide_eq_false_iff_not]; omega
      rw [e]
      simp only [cond_false]
      by_cases c2 : h.fr ≤ x
      · rw [ev_le_t c2]
        simp only [cond_true]
        constructor
        · intro h; cases h
        · rintro ⟨a, _⟩; omega
      · rw [ev_le_f (by omega)]
        simp only [cond_false]
        by_cases c3 : h.fr = h.to ∧ h.ls = []
        · have e : (h.fr == h.to && Nat.beq h.ls.length 0) = true := by rw [Bool.and_eq_true, beq_iff_eq, Nat.beq_eq]; exact ⟨c3.1, by rw [c3.2]; rfl⟩
          rw [e]
          simp only [cond_true]
          constructor
          · intro h; cases h
          · rintro ⟨_, _, _, d, _⟩; exact absurd c3 d
        · have e : (h.fr == h.to && Nat.beq h.ls.length 0) = false := by
            rw [Bool.and_eq_false_iff]
            by_cases q : h.fr = h.to
            · right
              rw [← Bool.not_eq_true, Nat.beq_eq]
              intro z
              exact c3 ⟨q, List.eq_nil_of_length_eq_zero z⟩
            · left; simpa using q
          rw [e]
          simp only [cond_false]
          rw [rightG_some (by omega) (by omega)]
          constructor
          · intro r; exact ⟨by omega, by omega, by omega, c3, r⟩
          · rintro ⟨_, _, _, _, r⟩; exact r
theorem rightG_none (n : Int) (l : List Hk) : rightG n none l = rightG n (some (-1)) l := by
  cases l with
  | nil => rfl
  | cons h l =>
    rw [rightG_cons, rightG_cons]
    by_cases c : h.fr < 0
    · rw [ev_lt_t c]; rfl
    · have e : prevLe h.fr (some (-1)) = prevLe h.fr none := by
        simp only [prevLe]
        exact ev_le_f (by omega)
      rw [e]
theorem rightF_iff {n : Int} (hn : 0 ≤ n) {l : List Hk} : rightF l n = 0 ↔ RQ n (-1) l := by
  unfold rightF
  rw [rightG_none]
  exact rightG_some (by omega) (by omega)
theorem RQ_le {n : Int} : ∀ {l : List Hk} {x : Int}, RQ n x l → x ≤ n
  | [], x, h => h
  | h :: l, x, hh => by
    obtain ⟨a, b, c, _⟩ := hh
    omega
theorem RQ_mono {n : Int} {l : List Hk} {x y : Int} (h : RQ n x l) (hy : y ≤ x) : RQ n y l := by
  cases l with
  | nil => exact Int.le_trans hy h
  | cons a l => exact ⟨Int.lt_of_le_of_lt hy h.1, h.2⟩
end Go.Ab
namespace Go.Ab
open Go.Proofs

theorem wrap64 {n : Int} (h1 : -9223372036854775808 ≤ n) (h2 : n ≤ 9223372036854775807) : IntKind.wrap .i64 n = n := by
  rw [← wrapI_eq]; exact w64 h1 h2
theorem isDg_eq (c : UInt8) : isDg c = decide (48 ≤ c.toNat ∧ c.toNat ≤ 57) := by
  unfold isDg
  rw [Bool.eq_iff_iff, Bool.and_eq_true, Nat.ble_eq, Nat.ble_eq, decide_eq_true_eq]
theorem isDg_t {c : UInt8} (h1 : 48 ≤ c.toNat) (h2 : c.toNat ≤ 57) : isDg c = true := by rw [isDg_eq]; simp [h1, h2]
theorem isDg_lo {c : UInt8} (h1 : c.toNat < 48) : isDg c = false := by rw [isDg_eq]; simp; omega
theorem isDg_hi {c : UInt8} (h1 : 57 < c.toNat) : isDg c = false := by rw [isDg_eq]; simp; omega
def stepN (n : Nat) (c : UInt8) : Nat := 10 * n + (c.toNat - 48)
theorem numV_eq (s : W) : numV s = s.foldl stepN 0 := rfl
theorem dig_w {c : UInt8} (h1 : 48 ≤ c.toNat) (h2 : c.toNat ≤ 57) : wrapI .i64 (wrapI .u8 ((c.toNat : Int) - 48)) = ((c.toNat - 48 : Nat) : Int) := by
  rw [w8 (by omega) (by omega), w64 (by omega) (by omega)]
  omega
theorem u8lt (c : UInt8) : c.toNat < 256 := c.toNat_lt

/-! ### number -/
theorem number_loop (s : W) (hs : s.length ≤ 9) : ∀ m i n : Nat, i + m = s.length → n + 1 ≤ 30 * 10 ^ i →
    Runs (cfg []) (number_q5 (mk s) (n : Nat) (s.length : Nat) (i : Nat)) [.int .i64 (cond ((s.drop i).all isDg) ((s.drop i).foldl stepN n : Nat) 0), .bool ((s.drop i).all isDg)]
  | 0, i, n, h, hn => by
    refine Runs.by (number_p5 · _ _ _ _) ?_
    simp (disch := omega) only [ev_lt_f, cond_false]
    rw [drop_end (by omega)]
    exact .ret
  | m + 1, i, n, h, hn => by
    have hp : 10 ^ i ≤ 10 ^ 8 := Nat.pow_le_pow_right (by decide) (by omega)
    have hp' : (10 : Nat) ^ 8 = 100000000 := by decide
    rw [hp'] at hp
    refine Runs.by (number_p5 · _ _ _ _) ?_
    rw [drop_at (0 : UInt8) (l := s) (i := i) (by omega)]
    simp (disch := omega) only [ev_lt_t, ev_le_t, Bool.and_self, cond_true, size_mk, byI_mk, List.all_cons, List.foldl_cons]
    generalize hc : s.getD i 0 = c
    have hlt := u8lt c
    by_cases h1 : c.toNat < 48
    · rw [ev_lt_t (by omega), isDg_lo h1]
      exact .ret
    · rw [ev_lt_f (by omega)]
      by_cases h2 : 57 < c.toNat
      · rw [ev_lt_t (by omega), isDg_hi h2]
        exact .ret
      · have ih := number_loop s hs m (i + 1) (stepN n c) (by omega) (by unfold stepN; rw [Nat.pow_succ]; omega)
        rw [ev_lt_f (by omega), isDg_t (by omega) (by omega), dig_w (by omega) (by omega)]
        rw [w64 (n := 10 * (n : Int)) (by omega) (by omega), w64 (n := 10 * (n : Int) + _) (by omega) (by omega), w64 (n := (i : Int) + 1) (by omega) (by omega)]
        have e : (10 * (n : Int) + ((c.toNat - 48 : Nat) : Int)) = (stepN n c : Nat) := by unfold stepN; omega
        have e2 : ((i : Int) + 1) = ((i + 1 : Nat) : Int) := by omega
        rw [e, e2]
        exact .go ih
theorem number_holds : Holds k_number := conT_of (ks := []) hold0 fun s g => by
  have hs := sm_of g
  refine Runs.by (number_e · _) ?_
  simp only [size_mk]
  unfold numR numOk
  by_cases h1 : s.length < 1
  · rw [ev_lt_t (by omega)]
    have : Nat.ble 1 s.length = false := by rw [← Bool.not_eq_true, Nat.ble_eq]; omega
    rw [this]; exact .ret
  rw [ev_lt_f (by omega), ev_blt (a := 1) (b := s.length) (by omega)]
  by_cases h2 : 9 < s.length
  · rw [ev_lt_t (by omega)]
    have : Nat.ble s.length 9 = false := by rw [← Bool.not_eq_true, Nat.ble_eq]; omega
    rw [this]; exact .ret
  rw [ev_lt_f (by omega), ev_blt (a := s.length) (b := 9) (by omega)]
  have L := number_loop s (by omega) s.length 0 0 (by omega) (by omega)
  simp only [List.drop_zero, ← numV_eq] at L
  by_cases h3 : 1 < s.length
  · rw [ev_lt_t (by omega), ev_blt (a := 2) (b := s.length) (by omega)]
    have e0 : byI (mk s) 0 = ((s.getD 0 0).toNat : Int) := byI_mk s 0
    rw [e0]
    by_cases h4 : (s.getD 0 0).toNat = 48
    · rw [ev_lt_t (by omega), ev_eq_t (by omega), h4]
      exact .ret
    · rw [ev_lt_t (by omega), ev_eq_f (by omega)]
      have : ((s.getD 0 0).toNat == 48) = false := by simpa using h4
      rw [this]
      exact .go L
  · rw [ev_lt_f (by omega)]
    have : Nat.ble 2 s.length = false := by rw [← Bool.not_eq_true, Nat.ble_eq]; omega
    rw [this]
    exact .go L

/-! ### digits -/
theorem dig_cell (n : Nat) : (List.map (fun c => UInt8.ofNat (Int.toNat (cI 0 c))) [[L.int IntKind.u8 (wrapI IntKind.u8 (wrapI IntKind.i64 (48 + Int.tmod (n : Int) 10)))]]) = [UInt8.ofNat (48 + n % 10)] := by
  have e : Int.tmod (n : Int) 10 = ((n % 10 : Nat) : Int) := by rw [Int.tmod_eq_emod_of_nonneg (by omega)]; omega
  rw [e, w64 (by omega) (by omega), w8 (by omega) (by omega)]
  show [UInt8.ofNat (Int.toNat (48 + ((n % 10 : Nat) : Int)))] = _
  have : Int.toNat (48 + ((n % 10 : Nat) : Int)) = 48 + n % 10 := by omega
  rw [this]
theorem digF_len : ∀ f n, (digF f n).length ≤ f
  | 0, n => Nat.le_refl _
  | f + 1, n => by
    rw [digF]
    have := digF_len f (n / 10)
    split <;> simp <;> omega
theorem digits_loop : ∀ (f n : Nat) (s : W), n < 10 ^ f → n ≤ 1000000000000000 → f + s.length ≤ 1000 → 0 < f → Runs (cfg []) (digits_q2 (n : Nat) (mk s)) [.str (mk (digF f n ++ s))]
  | 0, n, s, h, hb, hl, h0 => by omega
  | f + 1, n, s, h, hb, hl, h0 => by
    have hd : Int.tdiv (n : Int) 10 = ((n / 10 : Nat) : Int) := by rw [Int.tdiv_eq_ediv_of_nonneg (by omega)]; omega
    refine Runs.by (digits_p2 · _ _) ?_
    simp only [dig_cell, hd]
    rw [wrap64 (by omega) (by omega)]
    have es : (ByteArray.mk (List.toArray [UInt8.ofNat (48 + n % 10)])).size = 1 := rfl
    rw [es, ev_le_t (by rw [size_mk, imax]; omega)]
    have ea : ByteArray.mk (List.toArray [UInt8.ofNat (48 + n % 10)]) ++ mk s = mk (UInt8.ofNat (48 + n % 10) :: s) := app_mk [_] s
    simp only [ea]
    rw [digF]
    by_cases h10 : n < 10
    · rw [ev_eq_t (by omega), if_pos h10]
      exact .ret
    · rw [ev_eq_f (by omega), if_neg h10]
      have hf : 0 < f := by
        rcases Nat.eq_zero_or_pos f with rfl | h2
        · simp at h; omega
        · exact h2
      have ih := digits_loop f (n / 10) (UInt8.ofNat (48 + n % 10) :: s) (by rw [Nat.pow_succ] at h; omega) (by omega) (by simp; omega) hf
      rw [List.append_assoc]
      exact .go ih
theorem digits_holds : Holds k_digits := con_run (xs := []) hold0 fun aa hp r h => by
  split at h
  case h_2 => cases h
  rename_i n
  obtain ⟨g, rfl⟩ := xo h
  unfold gDg at g
  rw [Bool.and_eq_true] at g
  have g1 := leI_t g.1
  have g2 := leI_t g.2
  obtain ⟨m, rfl⟩ := Int.eq_ofNat_of_zero_le g1
  refine Runs.by (digits_e · _) ?_
  have hp : (10 : Nat) ^ 20 = 100000000000000000000 := by decide
  have L := digits_loop 20 m [] (by rw [hp]; omega) (by omega) (by simp) (by decide)
  rw [List.append_nil] at L
  unfold digS
  rw [Int.toNat_natCast]
  exact .go L

/-! ### line -/
theorem line_loop (s : W) (hs : s.length ≤ 1000000) : ∀ m i : Nat, i + m = s.length → Runs (cfg []) (line_q1 (mk s) (i : Nat)) [.int .i64 ((i : Int) + ((lnW (s.drop i)).length : Nat))]
  | 0, i, h => by
    refine Runs.by (line_p1 · _ _) ?_
    simp (disch := omega) only [size_mk, ev_lt_f, cond_false]
    rw [drop_end (by omega)]
    exact .ret' (by simp [lnW])
  | m + 1, i, h => by
    have ih := line_loop s hs m (i + 1) (by omega)
    refine Runs.by (line_p1 · _ _) ?_
    rw [drop_at (0 : UInt8) (l := s) (i := i) (by omega)]
    simp (disch := omega) only [size_mk, ev_lt_t, ev_le_t, Bool.and_self, cond_true, byI_mk, w64, lnW, List.takeWhile_cons]
    by_cases h1 : (s.getD i 0).toNat = 10
    · rw [ev_ne_f (by omega), h1]
      exact .ret' (by simp)
    · rw [ev_ne_t (by omega)]
      have : ((s.getD i 0).toNat == 10) = false := by simpa using h1
      rw [this]
      have e2 : ((i : Int) + 1) = ((i + 1 : Nat) : Int) := by omega
      rw [e2]
      simp only [Bool.not_false, if_true, List.length_cons]
      have e3 : ((i : Int) + ((lnW (s.drop (i + 1))).length + 1 : Nat)) = ((i + 1 : Nat) : Int) + ((lnW (s.drop (i + 1))).length : Nat) := by omega
      unfold lnW at e3 ih
      rw [e3]
      exact .go ih
theorem line_holds : Holds k_line := conTI_of (ks := []) hold0 fun s i g => by
  unfold gRn at g
  simp only [Bool.and_eq_true] at g
  obtain ⟨g1, g2, g3⟩ := g
  have g1 := sm_of g1
  have g2 := leI_t g2
  have g3 := leI_t g3
  obtain ⟨i, rfl⟩ := Int.eq_ofNat_of_zero_le g2
  refine Runs.by (line_e · _ _) ?_
  unfold lnE
  rw [Int.toNat_natCast]
  exact .go (line_loop s g1 (s.length - i) i (by omega))

/-! ### the reference's number -/
def tailR (s : W) (a : Nat) (e : Int) (n i : Nat) : List L :=
  [.int .i64 (cond (Nat.beq i a || (Nat.ble s.length i || !(((s.getD i 0).toNat : Int) == e))) 0 n), .int .i64 (cond (Nat.beq i a || (Nat.ble s.length i || !(((s.getD i 0).toNat : Int) == e))) (-1) (i + 1))]
theorem tailR_1 {s : W} {a : Nat} {e : Int} {n i : Nat} (h : i = a) : tailR s a e n i = [.int .i64 0, .int .i64 (-1)] := by
  unfold tailR
  have e1 : Nat.beq i a = true := by rw [Nat.beq_eq]; exact h
  rw [e1]; rfl
theorem tailR_2 {s : W} {a : Nat} {e : Int} {n i : Nat} (h : s.length ≤ i) : tailR s a e n i = [.int .i64 0, .int .i64 (-1)] := by
  unfold tailR
  rw [ev_blt h, Bool.true_or, Bool.or_true]; rfl
theorem tailR_3 {s : W} {a : Nat} {e : Int} {n i : Nat} (h : ((s.getD i 0).toNat : Int) ≠ e) : tailR s a e n i = [.int .i64 0, .int .i64 (-1)] := by
  unfold tailR
  rw [ev_eq_f h, Bool.not_false, Bool.or_true, Bool.or_true]; rfl
theorem tailR_4 {s : W} {a : Nat} {e : Int} {n i : Nat} (h1 : i ≠ a) (h2 : i < s.length) (h : ((s.getD i 0).toNat : Int) = e) : tailR s a e n i = [.int .i64 n, .int .i64 (i + 1)] := by
  unfold tailR
  have e1 : Nat.beq i a = false := by rw [← Bool.not_eq_true, Nat.beq_eq]; exact h1
  have e2 : Nat.ble s.length i = false := by rw [← Bool.not_eq_true, Nat.ble_eq]; omega
  rw [ev_eq_t h, e1, e2]; rfl
theorem tail_runs {s : W} (hs : s.length ≤ 1000000) {a : Nat} {e : Int} {n i : Nat} : RunsF (cfg []) (fun _ => cond ((i : Int) == (a : Int))
       (some [(.int IntKind.i64 (0)), (.int IntKind.i64 (-1))])
       (cond (leI (↑(ByteArray.size (mk s)) : Int) (i : Int))
        (some [(.int IntKind.i64 (0)), (.int IntKind.i64 (-1))])
        (cond (leI 0 (i : Int) && ltI (i : Int) (↑(ByteArray.size (mk s)) : Int))
         (cond (byI (mk s) (i : Int) != e)
          (some [(.int IntKind.i64 (0)), (.int IntKind.i64 (-1))])
          (some [(.int IntKind.i64 (n : Int)), (.int IntKind.i64 (wrapI IntKind.i64 ((i : Int) + 1)))]))
         none))) (tailR s a e n i) := by
  simp only [size_mk, byI_mk]
  by_cases h1 : i = a
  · rw [tailR_1 h1, ev_eq_t (by omega)]; exact .ret
  rw [ev_eq_f (by omega)]
  by_cases h2 : s.length ≤ i
  · rw [tailR_2 h2, ev_le_t (by omega)]; exact .ret
  rw [ev_le_f (by omega), ev_le_t (a := 0) (by omega), ev_lt_t (by omega)]
  by_cases h3 : ((s.getD i 0).toNat : Int) = e
  · rw [tailR_4 h1 (by omega) h3, ev_ne_f h3, w64 (by omega) (by omega)]; exact .ret
  · rw [tailR_3 h3, ev_ne_t h3]; exact .ret
theorem rnum_loop (s : W) (hs : s.length ≤ 1000000) (a : Nat) (e : Int) : ∀ m i n : Nat, i + m = a + 9 → i ≤ s.length → a ≤ i → n + 1 ≤ 30 * 10 ^ (i - a) →
    Runs (cfg []) (rnum_q3 (mk s) (a : Nat) e (n : Nat) (i : Nat)) (tailR s a e ((((s.drop i).take m).takeWhile isDg).foldl stepN n) (i + (((s.drop i).take m).takeWhile isDg).length))
  | 0, i, n, h, hi, ha, hn => by
    refine Runs.by (rnum_p3 · _ _ _ _ _) ?_
    rw [w64 (n := (a : Int) + 9) (by omega) (by omega), ev_lt_f (a := (i : Int)) (b := (a : Int) + 9) (by omega)]
    simp only [List.take_zero, List.takeWhile_nil, List.foldl_nil, List.length_nil, Nat.add_zero, cond_false]
    have T := tail_runs hs (a := a) (e := e) (n := n) (i := i)
    exact .cond (fun _ => T) fun _ => T
  | m + 1, i, n, h, hi, ha, hn => by
    have hp : 10 ^ (i - a) ≤ 10 ^ 8 := Nat.pow_le_pow_right (by decide) (by omega)
    have hp' : (10 : Nat) ^ 8 = 100000000 := by decide
    rw [hp'] at hp
    have T := tail_runs hs (a := a) (e := e) (n := n) (i := i)
    refine Runs.by (rnum_p3 · _ _ _ _ _) ?_
    rw [w64 (n := (a : Int) + 9) (by omega) (by omega), ev_lt_t (a := (i : Int)) (b := (a : Int) + 9) (by omega)]
    simp only [cond_true]
    by_cases h0 : i = s.length
    · rw [drop_end (by omega)]
      have hz : ltI (i : Int) (ByteArray.size (mk s) : Nat) = false := ev_lt_f (by rw [size_mk]; omega)
      rw [hz] at T ⊢
      exact T
    rw [drop_at (0 : UInt8) (l := s) (i := i) (by omega)]
    rw [show ltI (i : Int) (ByteArray.size (mk s) : Nat) = true from ev_lt_t (by rw [size_mk]; omega), ev_le_t (a := 0) (b := (i : Int)) (by omega)]
    simp only [Bool.and_self, cond_true, List.take_succ_cons, List.takeWhile_cons]
    rw [byI_mk]
    generalize hc : s.getD i 0 = c at *
    have hlt := u8lt c
    have T' : RunsF (cfg []) (fun G => cond ((i : Int) == (a : Int))
       (some [(.int IntKind.i64 (0)), (.int IntKind.i64 (-1))])
       (cond (leI (↑(ByteArray.size (mk s)) : Int) (i : Int))
        (some [(.int IntKind.i64 (0)), (.int IntKind.i64 (-1))])
        (cond ((c.toNat : Int) != e)
          (some [(.int IntKind.i64 (0)), (.int IntKind.i64 (-1))])
          (some [(.int IntKind.i64 (n : Int)), (.int IntKind.i64 (wrapI IntKind.i64 ((i : Int) + 1)))]))) ) (tailR s a e n i) := by
      rw [byI_mk, hc] at T
      rw [show ltI (i : Int) (ByteArray.size (mk s) : Nat) = true from ev_lt_t (by rw [size_mk]; omega), ev_le_t (a := 0) (b := (i : Int)) (by omega)] at T
      exact T
    by_cases h1 : c.toNat < 48
    · rw [ev_le_f (a := 48) (by omega), isDg_lo h1]
      exact T'
    · rw [ev_le_t (a := 48) (by omega)]
      by_cases h2 : 57 < c.toNat
      · rw [ev_le_f (b := 57) (by omega), isDg_hi h2]
        exact T'
      · have ih := rnum_loop s hs a e m (i + 1) (stepN n c) (by omega) (by omega) (by omega) (by
          unfold stepN
          rw [show i + 1 - a = (i - a) + 1 by omega, Nat.pow_succ]; omega)
        rw [ev_le_t (b := 57) (by omega), isDg_t (by omega) (by omega), dig_w (by omega) (by omega)]
        rw [w64 (n := (n : Int) * 10) (by omega) (by omega), w64 (n := (n : Int) * 10 + _) (by omega) (by omega), w64 (n := (i : Int) + 1) (by omega) (by omega)]
        have e1 : ((n : Int) * 10 + ((c.toNat - 48 : Nat) : Int)) = (stepN n c : Nat) := by unfold stepN; omega
        have e2 : ((i : Int) + 1) = ((i + 1 : Nat) : Int) := by omega
        rw [e1, e2]
        simp only [cond_true, if_true, List.foldl_cons, List.length_cons]
        rw [show i + ((List.takeWhile isDg (List.take m (s.drop (i + 1)))).length + 1) = i + 1 + (List.takeWhile isDg (List.take m (s.drop (i + 1)))).length by omega]
        exact .go ih
theorem rnum_holds : Holds k_rnum := con_run (xs := []) hold0 fun aa hp r h => by
  split at h
  case h_2 => cases h
  rename_i s i e
  obtain ⟨g, rfl⟩ := xo h
  obtain ⟨s, rfl⟩ := str_cases s
  simp only [gRn, rnV, rnI, bl_mk, Bool.and_eq_true] at g ⊢
  obtain ⟨g1, g2, g3⟩ := g
  have g1 := sm_of g1
  have g2 := leI_t g2
  have g3 := leI_t g3
  obtain ⟨i, rfl⟩ := Int.eq_ofNat_of_zero_le g2
  refine Runs.by (rnum_e · _ _ _) ?_
  have L := rnum_loop s g1 i e 9 i 0 rfl (by omega) (Nat.le_refl _) (by simp)
  rw [Int.toNat_natCast]
  have : tailR s i e (((((s.drop i).take 9).takeWhile isDg).foldl stepN 0)) (i + (((s.drop i).take 9).takeWhile isDg).length) = [.int .i64 (cond (rnumOk (s.drop i) e) (numV (dgs (s.drop i))) 0), .int .i64 (cond (rnumOk (s.drop i) e) ((i : Int) + ((dgs (s.drop i)).length + 1 : Nat)) (-1))] := by
    have hld : ((s.drop i).getD (dgs (s.drop i)).length 0) = s.getD (i + (dgs (s.drop i)).length) 0 := by
      rw [List.getD_eq_getElem?_getD, List.getD_eq_getElem?_getD, List.getElem?_drop]
    have hll : (s.drop i).length = s.length - i := List.length_drop ..
    show tailR s i e (numV (dgs (s.drop i))) (i + (dgs (s.drop i)).length) = _
    unfold rnumOk
    rw [hld, hll]
    generalize hd : (dgs (s.drop i)).length = d
    by_cases h1 : d = 0
    · rw [tailR_1 (by omega), show Nat.ble 1 d = false by rw [← Bool.not_eq_true, Nat.ble_eq]; omega]
      rfl
    rw [show Nat.ble 1 d = true from ev_blt (by omega)]
    by_cases h2 : s.length ≤ i + d
    · rw [tailR_2 h2, show Nat.blt d (s.length - i) = false by rw [← Bool.not_eq_true]; unfold Nat.blt; rw [Nat.ble_eq]; omega]
      rfl
    rw [show Nat.blt d (s.length - i) = true from by unfold Nat.blt; rw [Nat.ble_eq]; omega]
    by_cases h3 : ((s.getD (i + d) 0).toNat : Int) = e
    · rw [tailR_4 (by omega) (by omega) h3, ev_eq_t h3]
      simp only [Bool.and_self, cond_true]
      rw [show ((i + d : Nat) : Int) + 1 = (i : Int) + (d + 1 : Nat) by omega]
    · rw [tailR_3 h3, ev_eq_f h3]
      rfl
  rw [← this]
  exact .go L
end Go.Ab
namespace Go.Ab
open Go.Proofs

theorem split_ext {C : Cfg} {fn : Func} (hf : C.P.funcs[(50 : Nat)]? = some fn) (hr : fn.resultTypes = #[22]) (hk22 : kinds C.P 22 = [.sl 9]) (hag : isAggT C.P 22 = false) (hk9 : kinds C.P 9 = [.str]) (ho : C.own 50 = false)
    (hm : ∀ (w : World) (S : Nat → Prop), Tabs C w S → ∃ m, w.cell? ⟨1, 0, none⟩ = some (.int .i64 m))
    (c : ∀ (s sep : ByteArray) (m : Int) (w : World), s.size < 4294967281 → w.cell? ⟨1, 0, none⟩ = some (.int .i64 m) → 1 ≤ sep.size → Calls C.P 50 #[.string s, .string sep] w fun e w' =>
      e = .returned (.slice (some ⟨w.heap.size, 0, none⟩) (Lib.countB s sep + 1) (Lib.countB s sep + 1)) ∧ w' = w.alloc (.cells ((Lib.splitB sep 0 (Lib.countB s sep) s).map Value.string).toArray 9)) : ExtFor C 50 k_Split.2 := by
  intro aa hp r hs w fz ρ S vs hT H hargs
  simp only [k_Split] at hs
  split at hs
  case h_2 => cases hs
  rename_i s sep
  obtain ⟨hg, rfl⟩ := xo hs
  rw [Bool.and_eq_true] at hg
  have h1 := Nat.le_of_ble_eq_true hg.1
  have h2 : sep.size = 1 := by simpa using hg.2
  obtain ⟨m, hcm⟩ := hm w S hT
  rw [args_ss hargs]
  refine (c s sep m w (by omega) hcm (by omega)).mono ?_
  rintro e w' ⟨rfl, rfl⟩
  have hn := Lib.splitB_all sep (by omega) 0 _ s rfl
  have hd := Lib.splitB_data sep 0 (Lib.countB s sep) s
  obtain ⟨ch, hch⟩ : ∃ ch, bl sep = [ch] := by
    have : (bl sep).length = 1 := (bl_size sep).trans h2
    match hb : bl sep, this with
    | [x], _ => exact ⟨x, rfl⟩
  have hc : Lib.countB s sep = Lib.count (bl s) [ch] := by
    show Lib.count (bl s) (bl sep) = _
    rw [hch]
  have hd' : (Lib.splitB sep 0 (Lib.countB s sep) s).map bl = spl ch (bl s) := by
    rw [← splitK_spl, ← hc, ← hch]
    exact hd
  generalize Lib.splitB sep 0 (Lib.countB s sep) s = ps at *
  have hxs : eSs (spl ch (bl s)) = ps.map fun p => [L.str p] := by
    rw [← hd']
    unfold eSs
    rw [List.map_map]
    rfl
  rw [hch]
  simp only [List.getD_cons_zero, hxs]
  have hfl : (ps.map fun p => [L.str p]).flatten = ps.map L.str := by
    clear hd hd' hxs hn
    induction ps with
    | nil => rfl
    | cons p ps ih => rw [List.map_cons, List.flatten_cons, ih]; rfl
  let w' := w.alloc (.cells (ps.map Value.string).toArray 9)
  have hold : ∀ k, k < w.heap.size → w'.heap[k]? = w.heap[k]? := fun k hk => heap_alloc_old w _ hk
  have hnew : w'.heap[w.heap.size]? = some (.cells (ps.map Value.string).toArray 9 (0, 0)) := heap_alloc_new w _
  have hsz : w'.heap.size = w.heap.size + 1 := by simp [w']
  let fz' : Fz := fun g o => fz g o ∨ g = w.heap.size
  have hcell : ∀ (k : Nat) l, (ps.map L.str)[k]? = some l → ∃ p, ps[k]? = some p ∧ l = .str p := by
    intro k l hl
    rw [List.getElem?_map, Option.map_eq_some_iff] at hl
    obtain ⟨p, h1, h2⟩ := hl
    exact ⟨p, h1, h2.symm⟩
  refine ⟨_, fz', rfl, ⟨rfl, rfl, rfl, by show w.heap.size ≤ w'.heap.size; rw [hsz]; omega, fun k hk _ => hold k hk, fz_cell H.lt hold, ⟨fun g o h => .inl h, fun g o h => h.imp id fun e => .inr (Nat.le_of_eq e.symm)⟩⟩, fun g o h => ?_, fn, [.slice (some ⟨w.heap.size, 0, none⟩) (Lib.countB s sep + 1) (Lib.countB s sep + 1)], [.slice (some ⟨w.heap.size, 0, none⟩) (Lib.countB s sep + 1) (Lib.countB s sep + 1)], [], [], [], hf, rfl, ?_, ?_, ?_, by simp, by simp⟩
  · show g < w'.heap.size
    rw [hsz]
    rcases h with h | h
    · have := H.lt g o h
      omega
    · have h' : g = w.heap.size := h
      omega
  · rw [hr]
    exact ⟨[.slice (some ⟨w.heap.size, 0, none⟩) (Lib.countB s sep + 1) (Lib.countB s sep + 1)], [], rfl, by rw [hk22]; rfl, by rw [hk22]; decide, by rw [hag]; rfl, rfl⟩
  · rw [hr]
    simp only [List.flatMap_cons, List.flatMap_nil, hk22, List.append_nil, Bk, ho, Bool.false_eq_true, if_false]
    refine ⟨⟨_, rfl⟩, .lst _ _ _ 9 _ (fun k => .string (ps.getD k ByteArray.empty)) ⟨w.heap.size, 0, none⟩ ?_ (Nat.le_refl _) ?_ (fun _ => rfl) ?_ ?_ ?_, trivial⟩
    · rw [List.length_map, hn]
    · intro e he
      obtain ⟨p, _, rfl⟩ := List.mem_map.1 he
      unfold Conf
      rw [hk9]
      exact ⟨⟨p, rfl⟩, trivial⟩
    · intro k l hl
      rw [hfl] at hl
      obtain ⟨p, hp, rfl⟩ := hcell k l hl
      rw [add_zero', cell_box hnew]
      simp [List.getD, hp]
    · intro k l hl
      rw [add_zero']
      exact .inr rfl
    · intro k l hl
      rw [hfl] at hl
      obtain ⟨p, hp, rfl⟩ := hcell k l hl
      have : ps.getD k ByteArray.empty = p := by simp [List.getD, hp]
      rw [this]
      exact .str p
  · exact ⟨rfl, rfl⟩
theorem rt50 : Tryd.f50.resultTypes = #[22] := by kernel_rfl
theorem kinds22 : kinds (cfg []).P 22 = [.sl 9] := by kernel_rfl
theorem agg22 : isAggT (cfg []).P 22 = false := by kernel_rfl
theorem maxlen_g : Tryd.prog.globalNamed "internal/bytealg.MaxLen" = some 1 := by kernel_rfl
theorem Split_holds : Holds k_Split := split_ext (C := cfg []) Tryd.func50 rt50 kinds22 agg22 kinds9 rfl (fun w S hT => by
  obtain ⟨g, h1, h2, h3, cs, h4, m, h5⟩ := hT ("internal/bytealg.MaxLen", fun cs => ∃ m, cs = #[Value.int .i64 m]) (by
    show _ ∈ tabsL
    simp [tabsL])
  refine ⟨m, ?_⟩
  have h4' : w.var? Tryd.prog "internal/bytealg.MaxLen" = some cs := h4
  unfold World.var? at h4'
  rw [maxlen_g] at h4'
  simp only [Option.bind_some] at h4'
  split at h4'
  · rename_i cs' t fr he
    have h5' : cs = #[Value.int .i64 m] := h5
    cases h4'
    subst h5'
    unfold World.cell?
    simp [he]
  · cases h4') (fun s sep m w h1 h2 h3 => Tryd.strings_Split s sep m w h1 h2 h3)
end Go.Ab
namespace Go.Ab
open Go.Proofs

theorem hasP_holds : Holds k_hasP := con_run (xs := [k_lhasP]) (hold1 lhasP_holds hold0) fun aa hp r h => by
  split at h
  case h_2 => cases h
  rename_i s p
  obtain ⟨g, rfl⟩ := xo h
  refine Runs.by (hasP_e · _ _) ?_
  rw [g]
  exact .ret
theorem spl_len (c : UInt8) : ∀ (l w : W), w ∈ spl c l → w.length ≤ l.length
  | [], w, h => by
    have : w = [] := by simpa [spl] using h
    subst this; exact Nat.zero_le _
  | x :: l, w, h => by
    rw [spl] at h
    by_cases hx : x = c
    · rw [if_pos hx] at h
      rcases List.mem_cons.1 h with rfl | h
      · exact Nat.zero_le _
      · have := spl_len c l w h
        simp only [List.length_cons]; omega
    · rw [if_neg hx] at h
      have ih := spl_len c l
      generalize spl c l = ps at h ih
      match ps, h, ih with
      | [], h, ih =>
        have : w = [x] := by simpa using h
        subst this; simp
      | p :: t, h, ih =>
        rcases List.mem_cons.1 h with rfl | h
        · have := ih p (List.mem_cons_self ..)
          simp only [List.length_cons]; omega
        · have := ih w (List.mem_cons_of_mem _ h)
          simp only [List.length_cons]; omega
theorem spl_ne (c : UInt8) : ∀ (l : W), spl c l ≠ []
  | [] => by simp [spl]
  | x :: l => by
    rw [spl]
    split
    · simp
    · split <;> simp
theorem hdV_t {s : W} {k : Nat} (h : hdOk s (k + 1) = true) : hdV s k = numR (hdA s k) := by unfold hdV; rw [h]; rfl
theorem hdV_f {s : W} {k : Nat} (h : hdOk s (k + 1) = false) : hdV s k = 0 := by unfold hdV; rw [h]; rfl
theorem hdOk_mono {s : W} {k : Nat} (h : hdOk s k = false) : hdOk s (k + 1) = false := by rw [hdOk, h]; rfl
theorem head_holds : Holds k_head := conT_of (ks := [k_Split, k_number, k_hasP]) (hold1 Split_holds (hold1 number_holds (hold1 hasP_holds hold0))) fun s g => by
  have hs := sm_of g
  refine Runs.by (head_e · _) ?_
  simp only [size_mk, ext_mk, bl_mk, eSs_len, Bool.and_true, List.take_length]
  rw [ev_blt (by omega)]
  have hgd : List.getD ([32] : W) 0 0 = 32 := rfl
  rw [hgd]
  have hl1 : (s.drop 1).length = s.length - 1 := List.length_drop ..
  have fail : hdG s = false → [L.int .i64 (hdV s 0), .int .i64 (hdV s 1), .int .i64 (hdV s 2), .bool (hdOk s 3)] = [L.int .i64 0, .int .i64 0, .int .i64 0, .bool false] := fun h => by
    have h0 : hdOk s 0 = false := h
    rw [hdV_f (hdOk_mono h0), hdV_f (hdOk_mono (hdOk_mono h0)), hdV_f (hdOk_mono (hdOk_mono (hdOk_mono h0))), hdOk_mono (hdOk_mono (hdOk_mono h0))]
  by_cases h1 : ([64] : W).isPrefixOf s = true
  · have hle := isPre_len _ _ h1
    simp only [List.length_singleton] at hle
    rw [h1, Bool.not_true, ev_le_t (by omega), hl1, ev_blt (by omega)]
    by_cases h2 : (spl 32 (s.drop 1)).length = 3
    · have h0 : hdOk s 0 = true := by
        show hdG s = true
        unfold hdG
        rw [h1, h2]; rfl
      rw [ev_ne_f (by omega)]
      have hlen : ∀ k, k < 3 → (hdA s k).length ≤ 1000000 := fun k hk => by
        have hm : hdA s k ∈ spl 32 (s.drop 1) := by
          unfold hdA
          rw [List.getD_eq_getElem?_getD, List.getElem?_eq_getElem (by omega)]
          exact List.getElem_mem _
        have := spl_len _ _ _ hm
        omega
      have hat : ∀ k : Nat, k < 3 → atL (eSs (spl 32 (s.drop 1))) (k : Int) = eS (hdA s k) := fun k hk => eSs_at (by omega)
      have a0 := hat 0 (by omega)
      have a1 := hat 1 (by omega)
      have a2 := hat 2 (by omega)
      refine .go ?_
      refine Runs.by (head_p8 · _ _ _ _ _ _ _ _) ?_
      simp only [eSs_len, h2]
      simp only [show ((0 : Nat) : Int) = 0 from rfl, show ((1 : Nat) : Int) = 1 from rfl, show ((2 : Nat) : Int) = 2 from rfl] at a0 a1 a2
      rw [a0]
      simp only [cT_e, bl_mk]
      rw [sm_t (hlen 0 (by omega))]
      by_cases n0 : numOk (hdA s 0) = true
      case neg =>
        have n0 : numOk (hdA s 0) = false := by simpa using n0
        have k1 : hdOk s 1 = false := by rw [hdOk, h0, n0]; rfl
        rw [hdV_f k1, hdV_f (hdOk_mono k1), hdV_f (hdOk_mono (hdOk_mono k1)), hdOk_mono (hdOk_mono k1), n0]
        exact .ret
      have k1 : hdOk s 1 = true := by rw [hdOk, h0, n0]; rfl
      rw [n0, hdV_t k1]
      refine .go ?_
      refine Runs.by (head_p8 · _ _ _ _ _ _ _ _) ?_
      rw [show wrapI .i64 (0 + 1) = 1 from rfl]
      simp only [eSs_len, h2]
      rw [a1]
      simp only [cT_e, bl_mk]
      rw [sm_t (hlen 1 (by omega))]
      by_cases n1 : numOk (hdA s 1) = true
      case neg =>
        have n1 : numOk (hdA s 1) = false := by simpa using n1
        have k2 : hdOk s 2 = false := by rw [hdOk, k1, n1]; rfl
        rw [hdV_f k2, hdV_f (hdOk_mono k2), hdOk_mono k2, n1]
        exact .ret
      have k2 : hdOk s 2 = true := by rw [hdOk, k1, n1]; rfl
      rw [n1, hdV_t k2]
      refine .go ?_
      refine Runs.by (head_p8 · _ _ _ _ _ _ _ _) ?_
      rw [show wrapI .i64 (1 + 1) = 2 from rfl]
      simp only [eSs_len, h2]
      rw [a2]
      simp only [cT_e, bl_mk]
      rw [sm_t (hlen 2 (by omega))]
      by_cases n2 : numOk (hdA s 2) = true
      case neg =>
        have n2 : numOk (hdA s 2) = false := by simpa using n2
        have k3 : hdOk s 3 = false := by rw [hdOk, k2, n2]; rfl
        rw [hdV_f k3, k3, n2]
        exact .ret
      have k3 : hdOk s 3 = true := by rw [hdOk, k2, n2]; rfl
      rw [n2, hdV_t k3, k3]
      refine .go ?_
      refine Runs.by (head_p8 · _ _ _ _ _ _ _ _) ?_
      exact .ret
    · rw [ev_ne_t (by omega), fail (by unfold hdG; rw [show Nat.beq (spl 32 (s.drop 1)).length 3 = false by rw [← Bool.not_eq_true, Nat.beq_eq]; exact h2, Bool.and_false])]
      exact .ret
  · have h1' : ([64] : W).isPrefixOf s = false := Bool.eq_false_iff.2 h1
    rw [h1', fail (by unfold hdG; rw [h1']; rfl)]
    exact .ret
end Go.Ab
namespace Go.Ab
open Go.Proofs

theorem eB_len (l : List UInt8) : (eB l).length = l.length := List.length_map ..
theorem dig_len (n : Nat) : (dig n).length ≤ 20 := digF_len 20 n
theorem hkOk_of {h : Hk} (g : hkOk h = true) : ∃ f t : Nat, h = ⟨f, t, h.ls⟩ ∧ f ≤ t ∧ t ≤ 1000000000 ∧ h.ls.length ≤ 2000 ∧ ∀ w ∈ h.ls, w.length ≤ 2000 := by
  unfold hkOk at g
  simp only [Bool.and_eq_true, List.all_eq_true] at g
  obtain ⟨g1, g2, g3, g4, g5⟩ := g
  have g1 := leI_t g1
  have g2 := leI_t g2
  have g3 := leI_t g3
  obtain ⟨fr, to, ls⟩ := h
  simp only at *
  obtain ⟨f, rfl⟩ := Int.eq_ofNat_of_zero_le g1
  obtain ⟨t, rfl⟩ := Int.eq_ofNat_of_zero_le (show 0 ≤ to by omega)
  exact ⟨f, t, rfl, by omega, by omega, Nat.le_of_ble_eq_true g4, fun w hw => Nat.le_of_ble_eq_true (g5 w hw)⟩
theorem prOk_of {l : List Hk} (g : prOk l = true) : l.length ≤ 2000 ∧ ∀ h ∈ l, hkOk h = true := by
  unfold prOk at g
  rw [Bool.and_eq_true, List.all_eq_true] at g
  exact ⟨Nat.le_of_ble_eq_true g.1, g.2⟩
theorem getD_mem {α : Type} {l : List α} {i : Nat} (d : α) (h : i < l.length) : l.getD i d ∈ l := by
  rw [List.getD_eq_getElem?_getD, List.getElem?_eq_getElem h]
  exact List.getElem_mem h
theorem lnT_len (w : W) : (lnT w).length = w.length + 2 := by simp [lnT]
theorem bytes_mk (l : W) : bytesOf (mk l) = eB l := rfl
theorem dPrint_in (x8 : List (List L)) (x9 i : Int) (ls : List W) (hls : ls.length ≤ 2000) (hw : ∀ w ∈ ls, w.length ≤ 2000) (T : List L) : ∀ (m k : Nat) (acc : W), k + m = ls.length → acc.length + m * 2002 ≤ 10000000000 →
    Runs (cfg [k_ws, k_Itoa, k_bs]) (dPrint_q3 x8 x9 (wrapI .i64 (i + 1)) (eB (acc ++ (ls.drop k).flatMap lnT))) T → Runs (cfg [k_ws, k_Itoa, k_bs]) (dPrint_q7 x8 x9 i (eSs ls) (ls.length : Nat) (k : Nat) (eB acc)) T
  | 0, k, acc, h, hl, hT => by
    refine Runs.by (dPrint_p7 · _ _ _ _ _ _ _) ?_
    simp (disch := omega) only [ev_lt_f, cond_false]
    rw [drop_end (by omega)] at hT
    simp only [List.flatMap_nil, List.append_nil] at hT
    exact .go hT
  | m + 1, k, acc, h, hl, hT => by
    have hk : k < ls.length := by omega
    have hwk := hw _ (getD_mem [] hk)
    refine Runs.by (dPrint_p7 · _ _ _ _ _ _ _) ?_
    simp (disch := omega) only [eSs_len, ev_lt_t, ev_le_t, Bool.and_self, cond_true, eSs_at, cT_e, app_mk, size_mk, List.length_append, List.length_cons, List.length_nil, imax, isBy_e, eB_len, bytes_mk, eB_app, w64, ev_blt]
    refine .go (dPrint_in x8 x9 i ls hls hw T m (k + 1) _ (by omega) ?_ ?_)
    · simp only [List.length_append, List.length_cons, List.length_nil]; omega
    · rw [drop_at ([] : W) hk] at hT
      have e : acc ++ ([43] ++ ls.getD k [] ++ [10]) ++ (ls.drop (k + 1)).flatMap lnT = acc ++ (ls.getD k [] :: ls.drop (k + 1)).flatMap lnT := by
        rw [List.flatMap_cons]
        simp [lnT]
      rw [e]
      exact hT
theorem dPrint_loop (l : List Hk) (hl : l.length ≤ 2000) (ho : ∀ h ∈ l, hkOk h = true) : ∀ (m i : Nat) (acc : W), i + m = l.length → acc.length ≤ i * 4005000 →
    Runs (cfg [k_ws, k_Itoa, k_bs]) (dPrint_q3 (eHs l) (l.length : Nat) (i : Nat) (eB acc)) [.str (mk (acc ++ prF (l.drop i)))]
  | 0, i, acc, h, hb => by
    refine Runs.by (dPrint_p3 · _ _ _ _) ?_
    simp (disch := omega) only [ev_lt_f, cond_false, isBy_e, eB_len, ev_blt, Bool.and_self, cond_true, dB_e]
    rw [drop_end (by omega)]
    exact .ret' (by simp [prF])
  | m + 1, i, acc, h, hb => by
    have hi : i < l.length := by omega
    obtain ⟨f, t, he, h1, h2, h3, h4⟩ := hkOk_of (ho _ (getD_mem default hi))
    have hat := eHs_at hi
    have hd := drop_at (default : Hk) hi
    generalize l.getD i default = hk at *
    obtain ⟨fr, to, ls⟩ := hk
    simp only [Hk.mk.injEq, and_true] at he
    obtain ⟨rfl, rfl⟩ := he
    simp only at h3 h4
    have e0 : cI 0 (atL (eHs l) (i : Int)) = (f : Int) := by rw [hat]; rfl
    have e1 : cI 1 (atL (eHs l) (i : Int)) = (t : Int) := by rw [hat]; rfl
    have e2 : cX 2 (atL (eHs l) (i : Int)) = eSs ls := by rw [hat]; rfl
    have e3 : (t : Int) - (f : Int) = ((t - f : Nat) : Int) := by omega
    have d1 := dig_len f
    have d2 := dig_len (t - f)
    have d3 := dig_len ls.length
    refine Runs.by (dPrint_p3 · _ _ _ _) ?_
    simp (disch := omega) only [eHs_len, ev_lt_t, ev_le_t, Bool.and_self, cond_true, e0, e1, e2, e3, eSs_len, w64, Int.toNat_natCast, app_mk, size_mk, List.length_append, List.length_cons, List.length_nil, imax, isBy_e, eB_len, bytes_mk, eB_app, ev_blt, dupN_eq, both_self]
    refine .go (dPrint_in _ _ _ ls h3 h4 _ ls.length 0 _ (by omega) ?_ ?_)
    · simp only [List.length_append, List.length_cons, List.length_nil]; omega
    · rw [w64 (by omega) (by omega)]
      have ih := dPrint_loop l hl ho m (i + 1) (acc ++ ([64] ++ dig f ++ [32] ++ dig (t - f) ++ [32] ++ dig ls.length ++ [10]) ++ (ls.drop 0).flatMap lnT) (by omega) (by
        have : ((ls.drop 0).flatMap lnT).length ≤ 4004000 := by
          rw [List.drop_zero, List.length_flatMap]
          have h5 : ∀ (xs : List W), (∀ w ∈ xs, w.length ≤ 2000) → (xs.map fun w => (lnT w).length).sum ≤ xs.length * 2002 := by
            intro xs
            induction xs with
            | nil => intro _; simp
            | cons x xs ihx =>
              intro hx
              have := ihx fun w hw => hx w (List.mem_cons_of_mem _ hw)
              have hx0 := hx x (List.mem_cons_self ..)
              simp only [List.map_cons, List.sum_cons, List.length_cons, lnT_len] at this ⊢
              omega
          have := h5 ls h4
          omega
        simp only [List.length_append, List.length_cons, List.length_nil] at this ⊢
        omega)
      have e : acc ++ ([64] ++ dig f ++ [32] ++ dig (t - f) ++ [32] ++ dig ls.length ++ [10]) ++ (ls.drop 0).flatMap lnT ++ prF (l.drop (i + 1)) = acc ++ prF (l.drop i) := by
        rw [hd]
        show _ = acc ++ (List.flatMap _ (_ :: _))
        rw [List.flatMap_cons]
        simp [hkT, prF, e3]
      rw [e] at ih
      exact ih
theorem dPrint_holds : Holds k_dPrint := conH_of (ks := [k_ws, k_Itoa, k_bs]) (hold1 ws_holds (hold1 Itoa_holds (hold1 bs_holds hold0))) fun l g => by
  obtain ⟨g1, g2⟩ := prOk_of g
  refine Runs.by (dPrint_e · _) ?_
  rw [eHs_len]
  have := dPrint_loop l g1 g2 l.length 0 [] (by omega) (by simp)
  exact .go this
end Go.Ab
namespace Go.Ab
open Go.Proofs

theorem cmp_holds : Holds k_cmp := con_run (xs := []) hold0 fun aa hp r h => by
  split at h
  case h_2 => cases h
  rename_i a b xs c d ys
  obtain ⟨g, rfl⟩ := xo h
  unfold gNr at g
  simp only [Bool.and_eq_true] at g
  obtain ⟨⟨g1, g2⟩, g3, g4⟩ := g
  have g1 := leI_t g1
  have g2 := leI_t g2
  have g3 := leI_t g3
  have g4 := leI_t g4
  refine Runs.by (cmp_e · _ _ _ _ _ _) ?_
  rw [w64 (by omega) (by omega)]
  exact .ret

/-! ### insertion, as such -/
theorem mem_insH {h g : Hk} : ∀ {l : List Hk}, g ∈ insH h l ↔ g = h ∨ g ∈ l
  | [] => by simp [insH]
  | x :: l => by
    rw [insH]
    split
    · simp
    · rw [List.mem_cons, mem_insH (l := l), List.mem_cons]
      constructor
      · rintro (h | h | h) <;> simp [h]
      · rintro (h | h | h) <;> simp [h]
theorem insH_len (h : Hk) : ∀ (l : List Hk), (insH h l).length = l.length + 1
  | [] => rfl
  | x :: l => by
    rw [insH]
    split
    · simp
    · simp [insH_len h l]
def SrtL (l : List Hk) : Prop := l.Pairwise fun g h => g.fr ≤ h.fr
theorem srt_insH (h : Hk) : ∀ {l : List Hk}, SrtL l → SrtL (insH h l)
  | [], _ => by simp [insH, SrtL]
  | x :: l, hs => by
    have h1 : ∀ y ∈ l, x.fr ≤ y.fr := fun y hy => List.rel_of_pairwise_cons hs hy
    have h2 : SrtL l := hs.of_cons
    rw [insH]
    split
    · rename_i hlt
      exact List.Pairwise.cons (fun y hy => by
        rcases List.mem_cons.1 hy with rfl | hy
        · omega
        · have := h1 y hy; omega) hs
    · rename_i hlt
      exact List.Pairwise.cons (fun y hy => by
        rcases mem_insH.1 hy with rfl | hy
        · omega
        · exact h1 y hy) (srt_insH h h2)
theorem srtH_snoc (l : List Hk) (h : Hk) : srtH (l ++ [h]) = insH h (srtH l) := by
  unfold srtH
  rw [List.foldl_append]; rfl
theorem srtH_fold : ∀ (l acc : List Hk), SrtL acc → SrtL (l.foldl (fun acc h => insH h acc) acc) ∧ (l.foldl (fun acc h => insH h acc) acc).length = acc.length + l.length ∧ ∀ g, g ∈ l.foldl (fun acc h => insH h acc) acc ↔ g ∈ l ∨ g ∈ acc
  | [], acc, h => ⟨h, rfl, fun g => by simp⟩
  | x :: l, acc, h => by
    obtain ⟨a, b, c⟩ := srtH_fold l (insH x acc) (srt_insH x h)
    refine ⟨a, by rw [List.foldl_cons, b, insH_len, List.length_cons]; omega, fun g => ?_⟩
    rw [List.foldl_cons, c, mem_insH, List.mem_cons]
    constructor
    · rintro (h | h | h) <;> simp [h]
    · rintro ((h | h) | h) <;> simp [h]
theorem srtH_srt (l : List Hk) : SrtL (srtH l) := (srtH_fold l [] List.Pairwise.nil).1
theorem srtH_len (l : List Hk) : (srtH l).length = l.length := by
  have := (srtH_fold l [] List.Pairwise.nil).2.1
  simpa [srtH] using this
theorem mem_srtH {l : List Hk} {g : Hk} : g ∈ srtH l ↔ g ∈ l := by
  have := (srtH_fold l [] List.Pairwise.nil).2.2 g
  simpa [srtH] using this
/-- From behind. -/
theorem insH_snoc {h g : Hk} : ∀ {l : List Hk}, SrtL (l ++ [g]) → insH h (l ++ [g]) = if h.fr < g.fr then insH h l ++ [g] else l ++ [g, h]
  | [], _ => by simp only [List.nil_append, insH]; split <;> rfl
  | x :: l, hs => by
    have hxg : x.fr ≤ g.fr := List.rel_of_pairwise_cons hs (by simp)
    have ih := insH_snoc (h := h) (g := g) (l := l) (List.Pairwise.of_cons hs)
    rw [List.cons_append, insH, insH, ih]
    by_cases h1 : h.fr < x.fr
    · rw [if_pos h1, if_pos h1, if_pos (by omega)]; rfl
    · rw [if_neg h1, if_neg h1]
      by_cases h2 : h.fr < g.fr
      · rw [if_pos h2, if_pos h2]; rfl
      · rw [if_neg h2, if_neg h2]; rfl

/-! ### in a row -/
theorem eHs_set (l : List Hk) (i : Nat) (h : Hk) : (eHs l).set i (eH h) = eHs (l.set i h) := (List.map_set ..).symm
theorem eH_splice (h : Hk) (e : Hk) : splice 0 [L.int IntKind.i64 h.fr, L.int IntKind.i64 h.to, L.lst 9 (eSs h.ls)] (eH e) = eH h := rfl
theorem getD_app {α : Type} (x : List α) (g : α) (s : List α) (d : α) : (x ++ g :: s).getD x.length d = g := by simp [List.getD]
theorem getD_app1 {α : Type} (x : List α) (g e : α) (s : List α) (d : α) : (x ++ g :: e :: s).getD (x.length + 1) d = e := by
  rw [show x ++ g :: e :: s = (x ++ [g]) ++ e :: s by simp, show x.length + 1 = (x ++ [g]).length by simp]
  exact getD_app _ _ _ _
theorem swap_adj {α : Type} (x s : List α) (g e : α) : ((x ++ g :: e :: s).set (x.length + 1) g).set x.length e = x ++ e :: g :: s := by
  rw [List.set_append_right _ _ (by omega)]
  have : x.length + 1 - x.length = 1 := by omega
  rw [this]
  show ((x ++ g :: g :: s).set x.length e) = _
  rw [List.set_append_right _ _ (by omega), Nat.sub_self]
  rfl
abbrev gAll (l : List Hk) : Prop := ∀ h ∈ l, gNr h.fr = true
theorem gNr_of {x : Int} (h : gNr x = true) : -1000000000 ≤ x ∧ x ≤ 1000000000 := by
  unfold gNr at h
  rw [Bool.and_eq_true] at h
  exact ⟨leI_t h.1, leI_t h.2⟩
theorem isort_in (a : Nat) (b i : Int) (T : List L) : ∀ (n : Nat) (x : List Hk) (e : Hk) (s : List Hk), x.length = a + n → (x ++ e :: s).length ≤ 1000000 → gAll (x ++ e :: s) → SrtL (x.drop a) →
    Runs (cfg [k_cmp]) (isort_q1 (a : Nat) b (wrapI .i64 (i + 1)) (eHs (x.take a ++ (insH e (x.drop a) ++ s)))) T →
    Runs (cfg [k_cmp]) (isort_q4 (a : Nat) b i (x.length : Nat) (eHs (x ++ e :: s))) T
  | 0, x, e, s, hl, hlen, hg, hs, hT => by
    refine Runs.by (isort_p4 · _ _ _ _ _) ?_
    rw [ev_lt_f (by omega)]
    rw [List.drop_eq_nil_of_le (by omega), List.take_of_length_le (by omega)] at hT
    exact .go hT
  | n + 1, x, e, s, hl, hlen, hg, hs, hT => by
    obtain ⟨x, g, rfl⟩ : ∃ y g, x = y ++ [g] := by
      rcases List.eq_nil_or_concat x with rfl | ⟨y, g, rfl⟩
      · simp at hl
      · exact ⟨y, g, by simp⟩
    have hxl : x.length = a + n := by simp at hl; omega
    rw [List.drop_append_of_le_length (by omega)] at hs hT
    rw [insH_snoc hs, List.take_append_of_le_length (by omega)] at hT
    have hge := gNr_of (hg e (by simp))
    have hgg := gNr_of (hg g (by simp))
    have hge' := hg e (by simp)
    have hgg' := hg g (by simp)
    simp only [List.append_assoc, List.singleton_append] at hg hlen ⊢
    have hlen' := hlen
    simp only [List.length_append, List.length_cons] at hlen'
    have e0 : ((x ++ [g]).length : Int) = ((x.length + 1 : Nat) : Int) := by simp
    have em : ((x.length + 1 : Nat) : Int) - 1 = (x.length : Nat) := by omega
    have a1 : atL (eHs (x ++ g :: e :: s)) ((x.length + 1 : Nat) : Int) = eH e := by
      rw [eHs_at (by simp), getD_app1]
    have a2 : atL (eHs (x ++ g :: e :: s)) ((x.length : Nat) : Int) = eH g := by
      rw [eHs_at (by simp), getD_app]
    have hset : (eHs (x ++ g :: e :: s)).set (x.length + 1) (eH g) = eHs ((x ++ g :: e :: s).set (x.length + 1) g) := eHs_set _ _ _
    have a3 : atL (eHs ((x ++ g :: e :: s).set (x.length + 1) g)) ((x.length : Nat) : Int) = eH (((x ++ g :: e :: s).set (x.length + 1) g).getD x.length default) := eHs_at (by simp)
    refine Runs.by (isort_p4 · _ _ _ _ _) ?_
    rw [e0]
    simp (disch := omega) only [em, w64, eHs_len, List.length_append, List.length_cons, List.length_set, ev_lt_t, ev_le_t, Bool.and_self, cond_true, a1, a2, cI0_e, cI1_e, cX2_e, hge', hgg', Int.toNat_natCast, eH_splice, hset, a3, eHs_set, swap_adj]
    by_cases hlt : e.fr < g.fr
    · rw [if_pos hlt] at hT
      rw [ev_lt_t (by omega)]
      refine .go (isort_in a b i T n x e (g :: s) hxl (by simpa using hlen) (fun h hm => hg h (by
        simp only [List.mem_append, List.mem_cons] at hm ⊢
        rcases hm with h | h | h | h <;> simp [h])) (List.Pairwise.sublist (List.sublist_append_left _ _) hs) ?_)
      simpa [List.append_assoc] using hT
    · rw [if_neg hlt] at hT
      rw [ev_lt_f (by omega)]
      refine .go ?_
      have : x.take a ++ (x.drop a ++ [g, e] ++ s) = x ++ g :: e :: s := by
        rw [List.append_assoc, ← List.append_assoc, List.take_append_drop]; rfl
      rw [this] at hT
      exact hT
theorem gSo_of {l : List Hk} {a b : Int} (g : gSo l a b = true) : ∃ a' b' : Nat, a = a' ∧ b = b' ∧ a' ≤ b' ∧ b' ≤ l.length ∧ l.length ≤ 1000000 ∧ gAll l := by
  unfold gSo at g
  simp only [Bool.and_eq_true, List.all_eq_true] at g
  obtain ⟨g1, g2, g3, g4, g5⟩ := g
  have g1 := sm_of g1
  have g2 := leI_t g2
  have g3 := leI_t g3
  have g4 := leI_t g4
  obtain ⟨a', rfl⟩ := Int.eq_ofNat_of_zero_le g2
  obtain ⟨b', rfl⟩ := Int.eq_ofNat_of_zero_le (show 0 ≤ b by omega)
  exact ⟨a', b', rfl, rfl, by omega, by omega, g1, g5⟩
theorem srtP_len (l : List Hk) {a b : Nat} (h : a ≤ b) (hb : b ≤ l.length) : (srtP l a b).length = l.length := by
  unfold srtP
  simp only [List.length_append, srtH_len, List.length_take, List.length_drop]
  omega
theorem mem_srtP {l : List Hk} {a b : Nat} {g : Hk} (hg : g ∈ srtP l a b) : g ∈ l := by
  unfold srtP at hg
  rcases List.mem_append.1 hg with h | h
  · exact List.mem_of_mem_take h
  rcases List.mem_append.1 h with h | h
  · exact List.mem_of_mem_take (List.mem_of_mem_drop (mem_srtH.1 h))
  · exact List.mem_of_mem_drop h
theorem srtP_one (l : List Hk) {a b : Nat} (h : a ≤ b) (h1 : b ≤ a + 1) : srtP l a b = l := by
  unfold srtP
  have e : srtH ((l.take b).drop a) = (l.take b).drop a := by
    match hq : (l.take b).drop a with
    | [] => rfl
    | [x] => rfl
    | x :: y :: z =>
      have := congrArg List.length hq
      simp only [List.length_drop, List.length_take, List.length_cons] at this
      omega
  rw [e, ← List.append_assoc]
  have : l.take a = (l.take b).take a := by rw [List.take_take]; congr 1; omega
  rw [this, List.take_append_drop, List.take_append_drop]
theorem isort_loop (l : List Hk) (hl : l.length ≤ 1000000) (hg : gAll l) (a b : Nat) (hab : a ≤ b) (hb : b ≤ l.length) : ∀ (n i : Nat), a < i → i + n = b →
    Runs (cfg [k_cmp]) (isort_q1 (a : Nat) (b : Nat) (i : Nat) (eHs (srtP l a i))) [.lst 46 (eHs (srtP l a b))]
  | 0, i, h, hn => by
    refine Runs.by (isort_p1 · _ _ _ _) ?_
    rw [ev_lt_f (by omega), show i = b by omega]
    exact .ret
  | n + 1, i, h, hn => by
    have hi : i < l.length := by omega
    refine Runs.by (isort_p1 · _ _ _ _) ?_
    rw [ev_lt_t (by omega)]
    refine .go ?_
    have hd := drop_at (default : Hk) hi
    have hxl : (l.take a ++ srtH ((l.take i).drop a)).length = i := by
      simp only [List.length_append, srtH_len, List.length_take, List.length_drop]; omega
    have hta : (l.take a).length = a := by rw [List.length_take]; omega
    have e1 : srtP l a i = (l.take a ++ srtH ((l.take i).drop a)) ++ l.getD i default :: l.drop (i + 1) := by
      unfold srtP
      rw [hd, List.append_assoc]
    have hlen := srtP_len l (show a ≤ i by omega) (show i ≤ l.length by omega)
    have I := isort_in a (b : Nat) (i : Nat) [.lst 46 (eHs (srtP l a b))] (i - a) (l.take a ++ srtH ((l.take i).drop a)) (l.getD i default) (l.drop (i + 1)) (by omega) (by rw [← e1, hlen]; exact hl) (by
      rw [← e1]
      exact fun h hm => hg h (mem_srtP hm)) (by
      rw [List.drop_append_of_le_length (by omega), List.drop_eq_nil_of_le (by omega), List.nil_append]
      exact srtH_srt _) (by
      have e2 : (l.take a ++ srtH ((l.take i).drop a)).take a ++ (insH (l.getD i default) ((l.take a ++ srtH ((l.take i).drop a)).drop a) ++ l.drop (i + 1)) = srtP l a (i + 1) := by
        rw [List.take_append_of_le_length (by omega), List.take_of_length_le (by omega), List.drop_append_of_le_length (by omega), show (l.take a).drop a = [] from List.drop_eq_nil_of_le (by omega), List.nil_append]
        unfold srtP
        have e3 : (l.take (i + 1)).drop a = (l.take i).drop a ++ [l.getD i default] := by
          rw [List.take_succ_eq_append_getElem hi, List.drop_append_of_le_length (by rw [List.length_take]; omega)]
          simp [List.getD, hi]
        rw [e3, srtH_snoc]
      rw [e2, w64 (by omega) (by omega)]
      exact isort_loop l hl hg a b hab hb n (i + 1) (by omega) (by omega))
    rw [hxl, ← e1] at I
    exact I
theorem isort_holds : Holds k_isort := con_run (xs := [k_cmp]) (hold1 cmp_holds hold0) fun aa hp r h => by
  split at h
  case h_2 => cases h
  rename_i a b xs
  obtain ⟨g, rfl⟩ := xo h
  rw [Bool.and_eq_true] at g
  obtain ⟨l, rfl⟩ := isHs_of g.1
  have g2 := g.2
  rw [dHs_e] at g2 ⊢
  obtain ⟨a, b, rfl, rfl, hab, hb, hl, hg⟩ := gSo_of g2
  rw [Int.toNat_natCast, Int.toNat_natCast]
  refine Runs.by (isort_e · _ _ _) ?_
  rw [w64 (by omega) (by omega)]
  have e2 : ((a : Int) + 1) = ((a + 1 : Nat) : Int) := by omega
  rw [e2]
  refine .go ?_
  by_cases h1 : a = b
  · refine Runs.by (isort_p1 · _ _ _ _) ?_
    rw [ev_lt_f (by omega), srtP_one l hab (by omega)]
    exact .ret
  · have := isort_loop l hl hg a b hab hb (b - (a + 1)) (a + 1) (by omega) (by omega)
    rw [srtP_one l (by omega) (Nat.le_refl _)] at this
    exact this
end Go.Ab
namespace Go.Ab
open Go.Proofs

theorem slc_len {l : List Hk} {a b : Nat} (hb : b ≤ l.length) : (slc l a b).length = b - a := by
  unfold slc
  rw [List.length_drop, List.length_take]; omega
theorem slc_cons {l : List Hk} {a b : Nat} (h : a < b) (hb : b ≤ l.length) : slc l a b = l.getD a default :: slc l (a + 1) b := by
  unfold slc
  rw [drop_at (default : Hk) (l := l.take b) (by rw [List.length_take]; omega)]
  congr 1
  simp [List.getD, h]
theorem slc_snoc {l : List Hk} {a b : Nat} (h : a ≤ b) (hb : b < l.length) : slc l a (b + 1) = slc l a b ++ [l.getD b default] := by
  unfold slc
  rw [List.take_succ_eq_append_getElem hb, List.drop_append_of_le_length (by rw [List.length_take]; omega)]
  simp [List.getD, hb]
theorem slc_app (A X B : List Hk) : slc (A ++ (X ++ B)) A.length (A.length + X.length) = X := by
  unfold slc
  rw [List.take_length_add_append, List.drop_left, List.take_left]
theorem slc_app' {l A X B : List Hk} {a b : Nat} (h : l = A ++ (X ++ B)) (ha : a = A.length) (hb : b = A.length + X.length) : slc l a b = X := by
  subst h ha hb
  exact slc_app A X B
theorem slc_join {l : List Hk} {a b c : Nat} (h : a ≤ b) (h2 : b ≤ c) (_ : c ≤ l.length) : slc l a b ++ slc l b c = slc l a c := by
  unfold slc
  have e1 : (l.take b).drop a = ((l.take c).take b).drop a := by rw [List.take_take]; congr 2; omega
  have e2 : (l.take c).drop b = ((l.take c).drop a).drop (b - a) := by rw [List.drop_drop]; congr 1; omega
  rw [e1, e2, List.drop_take, List.take_append_drop]
theorem split3 (l : List Hk) {a m b : Nat} (h1 : a ≤ m) (h2 : m ≤ b) (hb : b ≤ l.length) : l = l.take a ++ (slc l a m ++ (slc l m b ++ l.drop b)) := by
  rw [← List.append_assoc (slc l a m), slc_join h1 h2 hb]
  unfold slc
  have : l.take a = (l.take b).take a := by rw [List.take_take]; congr 1; omega
  rw [this, ← List.append_assoc, List.take_append_drop, List.take_append_drop]
theorem swap_at {α : Type} (x m s : List α) (g e : α) : ((x ++ g :: (m ++ e :: s)).set x.length e).set (x.length + 1 + m.length) g = x ++ e :: (m ++ g :: s) := by
  rw [List.set_append_right _ _ (Nat.le_refl _), Nat.sub_self]
  show (x ++ e :: (m ++ e :: s)).set (x.length + 1 + m.length) g = _
  rw [List.set_append_right _ _ (by omega), show x.length + 1 + m.length - x.length = m.length + 1 by omega]
  show x ++ e :: ((m ++ e :: s).set m.length g) = _
  rw [List.set_append_right _ _ (Nat.le_refl _), Nat.sub_self]
  rfl
theorem swp_next {l : List Hk} {a b i : Nat} (h : a + i < b) (hb : b + i < l.length) :
    ((swpF l a b i).set (a + i) (l.getD (b + i) default)).set (b + i) (l.getD (a + i) default) = swpF l a b (i + 1) ∧
    (swpF l a b i).getD (a + i) default = l.getD (a + i) default ∧ (swpF l a b i).getD (b + i) default = l.getD (b + i) default ∧ (swpF l a b i).length = l.length := by
  have e0 : swpF l a b i = (l.take a ++ slc l b (b + i)) ++ l.getD (a + i) default :: ((slc l (a + i + 1) b ++ slc l a (a + i)) ++ l.getD (b + i) default :: l.drop (b + i + 1)) := by
    unfold swpF
    rw [slc_cons (a := a + i) (b := b) h (by omega), drop_at (default : Hk) (l := l) (i := b + i) hb]
    simp only [List.append_assoc, List.cons_append]
  have e1 : swpF l a b (i + 1) = (l.take a ++ slc l b (b + i)) ++ l.getD (b + i) default :: ((slc l (a + i + 1) b ++ slc l a (a + i)) ++ l.getD (a + i) default :: l.drop (b + i + 1)) := by
    unfold swpF
    rw [show b + (i + 1) = b + i + 1 by omega, show a + (i + 1) = a + i + 1 by omega, slc_snoc (a := b) (b := b + i) (by omega) hb, slc_snoc (a := a) (b := a + i) (by omega) (by omega)]
    simp only [List.append_assoc, List.cons_append, List.nil_append]
  have l1 : (l.take a ++ slc l b (b + i)).length = a + i := by
    rw [List.length_append, List.length_take, slc_len (by omega)]; omega
  have l2 : (slc l (a + i + 1) b ++ slc l a (a + i)).length = b - a - 1 := by
    rw [List.length_append, slc_len (by omega), slc_len (by omega)]; omega
  generalize l.take a ++ slc l b (b + i) = X at *
  generalize slc l (a + i + 1) b ++ slc l a (a + i) = M at *
  rw [e0, e1]
  have q1 : a + i = X.length := l1.symm
  have q2 : b + i = X.length + 1 + M.length := by omega
  refine ⟨?_, ?_, ?_, ?_⟩
  · rw [q1, q2]
    exact swap_at X M _ _ _
  · rw [← l1]
    exact getD_app _ _ _ _
  · have : X ++ l.getD (a + i) default :: (M ++ l.getD (b + i) default :: l.drop (b + i + 1)) = (X ++ l.getD (a + i) default :: M) ++ l.getD (b + i) default :: l.drop (b + i + 1) := by simp
    have hl : (X ++ l.getD (a + i) default :: M).length = b + i := by simp; omega
    rw [this]
    have := getD_app (X ++ l.getD (a + i) default :: M) (l.getD (b + i) default) (l.drop (b + i + 1)) default
    rw [hl] at this
    exact this
  · simp only [List.length_append, List.length_cons, List.length_drop]
    omega
theorem swpF0 (l : List Hk) {a b : Nat} (h : a ≤ b) (hb : b ≤ l.length) : swpF l a b 0 = l := by
  unfold swpF
  have e1 : slc l b (b + 0) = [] := by unfold slc; simp
  have e2 : slc l a (a + 0) = [] := by unfold slc; simp
  rw [e1, e2]
  simp only [Nat.add_zero, List.nil_append]
  have := split3 l (Nat.le_refl a) h hb
  have e3 : slc l a a = [] := by unfold slc; simp
  rw [e3, List.nil_append] at this
  exact this.symm
theorem swap_loop (l : List Hk) (hl : l.length ≤ 1000000) (a b n : Nat) (h : a + n ≤ b) (hb : b + n ≤ l.length) : ∀ (k i : Nat), i + k = n →
    Runs (cfg []) (swap_q1 (a : Nat) (b : Nat) (n : Nat) (i : Nat) (eHs (swpF l a b i))) [.lst 46 (eHs (swpF l a b n))]
  | 0, i, hi => by
    refine Runs.by (swap_p1 · _ _ _ _ _) ?_
    rw [ev_lt_f (by omega), show i = n by omega]
    exact .ret
  | k + 1, i, hi => by
    obtain ⟨s1, s2, s3, s4⟩ := swp_next (l := l) (a := a) (b := b) (i := i) (by omega) (by omega)
    have ea : (a : Int) + (i : Int) = ((a + i : Nat) : Int) := by omega
    have eb : (b : Int) + (i : Int) = ((b + i : Nat) : Int) := by omega
    have ei : (i : Int) + 1 = ((i + 1 : Nat) : Int) := by omega
    have a1 : atL (eHs (swpF l a b i)) ((a + i : Nat) : Int) = eH (l.getD (a + i) default) := by rw [eHs_at (by omega), s2]
    have a2 : atL (eHs (swpF l a b i)) ((b + i : Nat) : Int) = eH (l.getD (b + i) default) := by rw [eHs_at (by omega), s3]
    have a3 : atL (eHs ((swpF l a b i).set (a + i) (l.getD (b + i) default))) ((b + i : Nat) : Int) = eH (((swpF l a b i).set (a + i) (l.getD (b + i) default)).getD (b + i) default) := eHs_at (by rw [List.length_set]; omega)
    refine Runs.by (swap_p1 · _ _ _ _ _) ?_
    simp (disch := omega) only [ea, eb, ei, w64, eHs_len, s4, List.length_set, ev_lt_t, ev_le_t, Bool.and_self, cond_true, a1, a2, cI0_e, cI1_e, cX2_e, Int.toNat_natCast, eH_splice, eHs_set, a3, s1]
    exact .go (swap_loop l hl a b n h hb k (i + 1) (by omega))
theorem swap_holds : Holds k_swap := con_run (xs := []) hold0 fun aa hp r h => by
  split at h
  case h_2 => cases h
  rename_i a b n xs
  obtain ⟨g, rfl⟩ := xo h
  rw [Bool.and_eq_true] at g
  obtain ⟨l, rfl⟩ := isHs_of g.1
  have g2 := g.2
  rw [dHs_e] at g2 ⊢
  unfold gSw at g2
  simp only [Bool.and_eq_true] at g2
  obtain ⟨g1, g2, g3, g4, g5⟩ := g2
  have g1 := sm_of g1
  have g2 := leI_t g2
  have g3 := leI_t g3
  have g4 := leI_t g4
  have g5 := leI_t g5
  obtain ⟨a, rfl⟩ := Int.eq_ofNat_of_zero_le g2
  obtain ⟨n, rfl⟩ := Int.eq_ofNat_of_zero_le g3
  obtain ⟨b, rfl⟩ := Int.eq_ofNat_of_zero_le (show 0 ≤ b by omega)
  refine Runs.by (swap_e · _ _ _ _) ?_
  have := swap_loop l g1 a b n (by omega) (by omega) n 0 (by omega)
  rw [swpF0 l (by omega) (by omega)] at this
  rw [Int.toNat_natCast, Int.toNat_natCast, Int.toNat_natCast]
  exact .go this

theorem swpF_app (A X M Y B : List Hk) (h : X.length = Y.length) {a b n : Nat} (ha : a = A.length) (hb : b = A.length + X.length + M.length) (hn : n = X.length) :
    swpF (A ++ (X ++ (M ++ (Y ++ B)))) a b n = A ++ (Y ++ (M ++ (X ++ B))) := by
  subst ha hb hn
  unfold swpF
  rw [slc_app' (l := A ++ (X ++ (M ++ (Y ++ B)))) (A := A ++ (X ++ M)) (X := Y) (B := B) (by simp) (by simp; omega) (by simp; omega),
    slc_app' (l := A ++ (X ++ (M ++ (Y ++ B)))) (A := A ++ X) (X := M) (B := Y ++ B) (by simp) (by simp) (by simp),
    slc_app' (l := A ++ (X ++ (M ++ (Y ++ B)))) (A := A) (X := X) (B := M ++ (Y ++ B)) rfl rfl rfl, List.take_left]
  have : (A ++ (X ++ (M ++ (Y ++ B)))).drop (A.length + X.length + M.length + X.length) = B := by
    rw [show A.length + X.length + M.length + X.length = (A ++ (X ++ (M ++ Y))).length by simp; omega, show A ++ (X ++ (M ++ (Y ++ B))) = (A ++ (X ++ (M ++ Y))) ++ B by simp, List.drop_left]
  rw [this]
theorem gSw_t {l : List Hk} {a b n : Nat} (hl : l.length ≤ 1000000) (h : a + n ≤ b) (hb : b + n ≤ l.length) : gSw l (a : Int) (b : Int) (n : Int) = true := by
  unfold gSw
  rw [sm_t hl, ev_le_t (by omega), ev_le_t (by omega), ev_le_t (by omega), ev_le_t (by omega)]; rfl
theorem cut {α : Type} (l : List α) {n : Nat} (h : n ≤ l.length) : ∃ x y, l = x ++ y ∧ x.length = n := ⟨l.take n, l.drop n, (List.take_append_drop n l).symm, by rw [List.length_take]; omega⟩
theorem rot_loop : ∀ (k : Nat) (A X Y B : List Hk), X.length + Y.length ≤ k → 1 ≤ X.length → 1 ≤ Y.length → (A ++ (X ++ (Y ++ B))).length ≤ 1000000 →
    Runs (cfg [k_swap]) (rot_q2 ((A.length + X.length : Nat) : Int) (X.length : Nat) (Y.length : Nat) (eHs (A ++ (X ++ (Y ++ B))))) [.lst 46 (eHs (A ++ (Y ++ (X ++ B))))]
  | 0, A, X, Y, B, hk, hx, hy, hl => by omega
  | k + 1, A, X, Y, B, hk, hx, hy, hl => by
    have hl' := hl
    simp only [List.length_append] at hl'
    have e1 : ((A.length + X.length : Nat) : Int) - (X.length : Nat) = (A.length : Nat) := by omega
    refine Runs.by (rot_p2 · _ _ _ _) ?_
    simp only [isHs_e, dHs_e, Bool.true_and]
    by_cases h0 : X.length = Y.length
    · have es : swpF (A ++ (X ++ (Y ++ B))) A.length (A.length + X.length) X.length = A ++ (Y ++ (X ++ B)) := swpF_app A X [] Y B h0 rfl (by simp) rfl
      rw [ev_ne_f (by omega), e1, w64 (n := (A.length : Nat)) (by omega) (by omega), gSw_t (a := A.length) (b := A.length + X.length) (n := X.length) hl (by omega) (by simp only [List.length_append]; omega)]
      simp only [Int.toNat_natCast]
      rw [es]
      exact .ret
    rw [ev_ne_t (by omega)]
    by_cases h1 : Y.length < X.length
    · obtain ⟨X1, X2, rfl, hx1⟩ := cut X (show Y.length ≤ X.length by omega)
      simp only [List.length_append] at *
      rw [ev_lt_t (by omega), e1, w64 (n := (A.length : Nat)) (by omega) (by omega), gSw_t (by simp only [List.length_append]; omega) (by omega) (by simp only [List.length_append]; omega)]
      simp only [Int.toNat_natCast]
      have e2 : ((X1.length + X2.length : Nat) : Int) - (Y.length : Nat) = (X2.length : Nat) := by omega
      rw [e2, w64 (n := (X2.length : Nat)) (by omega) (by omega)]
      have es : swpF (A ++ (X1 ++ X2 ++ (Y ++ B))) A.length (A.length + (X1.length + X2.length)) Y.length = (A ++ Y) ++ (X2 ++ (X1 ++ B)) := by
        have := swpF_app A X1 X2 Y B hx1 (a := A.length) (b := A.length + (X1.length + X2.length)) (n := Y.length) rfl (by omega) (by omega)
        simpa [List.append_assoc] using this
      rw [es]
      have ih := rot_loop k (A ++ Y) X2 X1 B (by omega) (by omega) (by omega) (by simp only [List.length_append]; omega)
      rw [List.length_append, hx1] at ih
      rw [show A.length + (X1.length + X2.length) = A.length + Y.length + X2.length by omega]
      have e3 : A ++ Y ++ (X1 ++ (X2 ++ B)) = A ++ (Y ++ (X1 ++ X2 ++ B)) := by simp
      rw [e3] at ih
      exact .go ih
    · obtain ⟨Y1, Y2, rfl, hy1⟩ := cut Y (show Y.length - X.length ≤ Y.length by omega)
      simp only [List.length_append] at *
      have hy2 : Y2.length = X.length := by omega
      rw [ev_lt_f (by omega), e1, w64 (n := (A.length : Nat)) (by omega) (by omega), w64 (n := ((A.length + X.length : Nat) : Int) + ((Y1.length + Y2.length : Nat) : Int)) (by omega) (by omega)]
      have e4 : ((A.length + X.length : Nat) : Int) + ((Y1.length + Y2.length : Nat) : Int) - (X.length : Nat) = ((A.length + X.length + Y1.length : Nat) : Int) := by omega
      have e5 : ((Y1.length + Y2.length : Nat) : Int) - (X.length : Nat) = (Y1.length : Nat) := by omega
      rw [e4, e5, w64 (n := ((A.length + X.length + Y1.length : Nat) : Int)) (by omega) (by omega), w64 (n := (Y1.length : Nat)) (by omega) (by omega), gSw_t (a := A.length) (b := A.length + X.length + Y1.length) (n := X.length) (by simp only [List.length_append]; omega) (by omega) (by simp only [List.length_append]; omega)]
      simp only [Int.toNat_natCast]
      have es : swpF (A ++ (X ++ (Y1 ++ Y2 ++ B))) A.length (A.length + X.length + Y1.length) X.length = A ++ (Y2 ++ (Y1 ++ (X ++ B))) := by
        have := swpF_app A X Y1 Y2 B hy2.symm (a := A.length) (b := A.length + X.length + Y1.length) (n := X.length) rfl rfl rfl
        simpa [List.append_assoc] using this
      rw [es]
      have ih := rot_loop k A Y2 Y1 (X ++ B) (by omega) (by omega) (by omega) (by simp only [List.length_append]; omega)
      rw [hy2] at ih
      have e3 : A ++ (Y1 ++ (Y2 ++ (X ++ B))) = A ++ (Y1 ++ Y2 ++ (X ++ B)) := by simp
      rw [e3] at ih
      exact .go ih
theorem rot_holds : Holds k_rot := con_run (xs := [k_swap]) (hold1 swap_holds hold0) fun aa hp r h => by
  split at h
  case h_2 => cases h
  rename_i a m b xs
  obtain ⟨g, rfl⟩ := xo h
  rw [Bool.and_eq_true] at g
  obtain ⟨l, rfl⟩ := isHs_of g.1
  have g2 := g.2
  rw [dHs_e] at g2 ⊢
  unfold gRo at g2
  simp only [Bool.and_eq_true] at g2
  obtain ⟨g1, g2, g3, g4, g5⟩ := g2
  have g1 := sm_of g1
  have g2 := leI_t g2
  have g3 := ltI_t g3
  have g4 := ltI_t g4
  have g5 := leI_t g5
  obtain ⟨a, rfl⟩ := Int.eq_ofNat_of_zero_le g2
  obtain ⟨m, rfl⟩ := Int.eq_ofNat_of_zero_le (show 0 ≤ m by omega)
  obtain ⟨b, rfl⟩ := Int.eq_ofNat_of_zero_le (show 0 ≤ b by omega)
  refine Runs.by (rot_e · _ _ _ _) ?_
  have hs := split3 l (a := a) (m := m) (b := b) (by omega) (by omega) (by omega)
  have l1 : (slc l a m).length = m - a := slc_len (by omega)
  have l2 : (slc l m b).length = b - m := slc_len (by omega)
  have l3 : (l.take a).length = a := by rw [List.length_take]; omega
  have := rot_loop (b - a) (l.take a) (slc l a m) (slc l m b) (l.drop b) (by omega) (by omega) (by omega) (by rw [← hs]; exact g1)
  rw [← hs, l1, l2, l3] at this
  rw [Int.toNat_natCast, Int.toNat_natCast, Int.toNat_natCast]
  have e1 : (m : Int) - (a : Int) = ((m - a : Nat) : Int) := by omega
  have e2 : (b : Int) - (m : Int) = ((b - m : Nat) : Int) := by omega
  rw [e1, e2, w64 (by omega) (by omega), w64 (by omega) (by omega)]
  rw [show a + (m - a) = m by omega] at this
  exact .go this
end Go.Ab
namespace Go.Ab
open Go.Proofs

def IncL (l : List Hk) : Prop := l.Pairwise fun g h => g.fr < h.fr
def DifL (l : List Hk) : Prop := l.Pairwise fun g h => g.fr ≠ h.fr
theorem incH_iff : ∀ {l : List Hk}, incH l = true ↔ IncL l
  | [] => by simp [incH, IncL]
  | h :: l => by
    rw [incH, Bool.and_eq_true, incH_iff (l := l), List.all_eq_true]
    unfold IncL
    rw [List.pairwise_cons]
    constructor
    · rintro ⟨a, b⟩; exact ⟨fun g hg => ltI_t (a g hg), b⟩
    · rintro ⟨a, b⟩; exact ⟨fun g hg => ev_lt_t (a g hg), b⟩
theorem difH_iff : ∀ {l : List Hk}, difH l = true ↔ DifL l
  | [] => by simp [difH, DifL]
  | h :: l => by
    rw [difH, Bool.and_eq_true, difH_iff (l := l), List.all_eq_true]
    unfold DifL
    rw [List.pairwise_cons]
    constructor
    · rintro ⟨a, b⟩
      exact ⟨fun g hg he => by have := a g hg; simp [he] at this, b⟩
    · rintro ⟨a, b⟩
      exact ⟨fun g hg => by have := a g hg; simp; omega, b⟩
theorem inc_insH (h : Hk) : ∀ {l : List Hk}, IncL l → (∀ g ∈ l, g.fr ≠ h.fr) → IncL (insH h l)
  | [], _, _ => by simp [insH, IncL]
  | x :: l, hs, hd => by
    have h1 : ∀ y ∈ l, x.fr < y.fr := fun y hy => List.rel_of_pairwise_cons hs hy
    have hx := hd x (List.mem_cons_self ..)
    have h2 : IncL l := hs.of_cons
    rw [insH]
    split
    · rename_i hlt
      exact List.Pairwise.cons (fun y hy => by
        rcases List.mem_cons.1 hy with rfl | hy
        · exact hlt
        · have := h1 y hy; omega) hs
    · rename_i hlt
      exact List.Pairwise.cons (fun y hy => by
        rcases mem_insH.1 hy with rfl | hy
        · omega
        · exact h1 y hy) (inc_insH h h2 fun g hg => hd g (List.mem_cons_of_mem _ hg))
theorem inc_fold : ∀ (l acc : List Hk), IncL acc → DifL l → (∀ g ∈ l, ∀ h ∈ acc, h.fr ≠ g.fr) → IncL (l.foldl (fun acc h => insH h acc) acc)
  | [], acc, h, _, _ => h
  | x :: l, acc, h, hd, hx => by
    have h1 : ∀ y ∈ l, x.fr ≠ y.fr := fun y hy => List.rel_of_pairwise_cons hd hy
    refine inc_fold l (insH x acc) (inc_insH x h (hx x (List.mem_cons_self ..))) hd.of_cons fun g hg h' hh' => ?_
    rcases mem_insH.1 hh' with rfl | hh'
    · exact h1 g hg
    · exact hx g (List.mem_cons_of_mem _ hg) h' hh'
theorem srtH_inc {l : List Hk} (h : DifL l) : IncL (srtH l) := inc_fold l [] List.Pairwise.nil h fun _ _ _ h => by cases h
theorem inc_unique : ∀ {l m : List Hk}, IncL l → IncL m → (∀ g, g ∈ l ↔ g ∈ m) → l = m
  | [], [], _, _, _ => rfl
  | [], y :: m, _, _, h => absurd ((h y).2 (List.mem_cons_self ..)) (by simp)
  | x :: l, [], _, _, h => absurd ((h x).1 (List.mem_cons_self ..)) (by simp)
  | x :: l, y :: m, hl, hm, h => by
    have h1 : ∀ g ∈ l, x.fr < g.fr := fun g hg => List.rel_of_pairwise_cons hl hg
    have h2 : ∀ g ∈ m, y.fr < g.fr := fun g hg => List.rel_of_pairwise_cons hm hg
    have hxy : x = y := by
      rcases List.mem_cons.1 ((h x).1 (List.mem_cons_self ..)) with e | hx
      · exact e
      rcases List.mem_cons.1 ((h y).2 (List.mem_cons_self ..)) with e | hy
      · exact e.symm
      have := h1 y hy
      have := h2 x hx
      omega
    subst hxy
    rw [inc_unique hl.of_cons hm.of_cons fun g => ?_]
    constructor
    · intro hg
      rcases List.mem_cons.1 ((h g).1 (List.mem_cons_of_mem _ hg)) with e | hg'
      · have := h1 g hg; rw [e] at this; omega
      · exact hg'
    · intro hg
      rcases List.mem_cons.1 ((h g).2 (List.mem_cons_of_mem _ hg)) with e | hg'
      · have := h2 g hg; rw [e] at this; omega
      · exact hg'
theorem inc_dif {l : List Hk} (h : IncL l) : DifL l := h.imp fun h => by omega
theorem srtH_eq {l m : List Hk} (hd : DifL l) (hm : IncL m) (h : ∀ g, g ∈ m ↔ g ∈ l) : srtH l = m :=
  inc_unique (srtH_inc hd) hm fun g => mem_srtH.trans (h g).symm
theorem srtH_id {l : List Hk} (h : IncL l) : srtH l = l := srtH_eq (inc_dif h) h fun _ => Iff.rfl

/-! ### parts -/
theorem mem_slc {l : List Hk} {a b : Nat} (hb : b ≤ l.length) {g : Hk} : g ∈ slc l a b ↔ ∃ c, a ≤ c ∧ c < b ∧ g = l.getD c default := by
  unfold slc
  constructor
  · intro h
    obtain ⟨i, hi, e⟩ := List.getElem_of_mem h
    rw [List.length_drop, List.length_take] at hi
    refine ⟨a + i, by omega, by omega, ?_⟩
    rw [← e, List.getElem_drop, List.getElem_take]
    simp [List.getD, show a + i < l.length by omega]
  · rintro ⟨c, h1, h2, rfl⟩
    have : ((l.take b).drop a)[c - a]? = some (l.getD c default) := by
      rw [List.getElem?_drop, show a + (c - a) = c by omega, List.getElem?_take, if_pos h2]
      simp [List.getD, show c < l.length by omega]
    exact List.mem_of_getElem? this
theorem inc_get {l : List Hk} {a m : Nat} (hm : m ≤ l.length) (h : IncL (slc l a m)) {i j : Nat} (h1 : a ≤ i) (h2 : i < j) (h3 : j < m) : (l.getD i default).fr < (l.getD j default).fr := by
  have := (List.pairwise_iff_getElem.1 h) (i - a) (j - a) (by rw [slc_len hm]; omega) (by rw [slc_len hm]; omega) (by omega)
  have e : ∀ k (hk : k - a < (slc l a m).length), a ≤ k → (slc l a m)[k - a] = l.getD k default := fun k hk ha => by
    have hk' := hk
    rw [slc_len hm] at hk'
    have : (slc l a m)[k - a]? = some (l.getD k default) := by
      unfold slc
      rw [List.getElem?_drop, show a + (k - a) = k by omega, List.getElem?_take, if_pos (by omega)]
      simp [List.getD, show k < l.length by omega]
    rw [List.getElem?_eq_getElem hk] at this
    exact Option.some.inj this
  rw [e i _ h1, e j _ (by omega)] at this
  exact this
theorem slc_pre {l : List Hk} {a s m : Nat} (h : s ≤ m) (_ : a ≤ s) : slc l a s = (slc l a m).take (s - a) := by
  unfold slc
  rw [← List.drop_take, List.take_take]
  congr 2; omega
theorem slc_suf {l : List Hk} {a s m : Nat} (h1 : a ≤ s) : slc l s m = (slc l a m).drop (s - a) := by
  unfold slc
  rw [List.drop_drop]
  congr 1; omega
theorem slc_nil {l : List Hk} {a b : Nat} (h : b ≤ a) : slc l a b = [] := by
  unfold slc
  exact List.drop_eq_nil_of_le (by rw [List.length_take]; omega)
theorem inc_app {x y : List Hk} (hx : IncL x) (hy : IncL y) (h : ∀ g ∈ x, ∀ g' ∈ y, g.fr < g'.fr) : IncL (x ++ y) := List.pairwise_append.2 ⟨hx, hy, h⟩
theorem srtP_eq {l : List Hk} {a b : Nat} {r : List Hk} (hd : DifL (slc l a b)) (hr : IncL r) (h : ∀ g, g ∈ r ↔ g ∈ slc l a b) : srtP l a b = l.take a ++ (r ++ l.drop b) := by
  unfold srtP
  have := srtH_eq hd hr h
  unfold slc at this
  rw [this]
theorem srtP_app {l X Y Z : List Hk} {a b : Nat} (h : l = X ++ (Y ++ Z)) (ha : a = X.length) (hb : b = X.length + Y.length) : srtP l a b = X ++ (srtH Y ++ Z) := by
  have e := slc_app' h ha hb
  unfold slc at e
  unfold srtP
  rw [e]
  subst h ha hb
  rw [List.take_left, ← List.append_assoc X Y Z, show X.length + Y.length = (X ++ Y).length by simp, List.drop_left]
/-- What the two halves are after the turn: all is said by them. -/
structure Halves (l : List Hk) (a m b mid s e : Nat) : Prop where
  h1 : a ≤ s
  h2 : s ≤ m
  h3 : m ≤ e
  h4 : e ≤ b
  h5 : b ≤ l.length
  h6 : s + (e - m) = mid
  p : IncL (slc l a m)
  q : IncL (slc l m b)
  d : DifL (slc l a b)
  lr : ∀ g ∈ slc l a s, ∀ g' ∈ slc l e b, g.fr < g'.fr
  rl : ∀ g ∈ slc l m e, ∀ g' ∈ slc l s m, g.fr < g'.fr
theorem Halves.facts {l : List Hk} {a m b mid s e : Nat} (H : Halves l a m b mid s e) :
    rotF l s m e = l.take a ++ ((slc l a s ++ slc l m e) ++ ((slc l s m ++ slc l e b) ++ l.drop b)) ∧ DifL (slc l a s ++ slc l m e) ∧ DifL (slc l s m ++ slc l e b) ∧
    IncL (slc l a s) ∧ IncL (slc l m e) ∧ IncL (slc l s m) ∧ IncL (slc l e b) ∧ srtH (slc l a b) = srtH (slc l a s ++ slc l m e) ++ srtH (slc l s m ++ slc l e b) := by
  obtain ⟨h1, h2, h3, h4, h5, h6, p, q, d, lr, rl⟩ := H
  have j1 : slc l a s ++ slc l s m = slc l a m := slc_join h1 h2 (by omega)
  have j2 : slc l m e ++ slc l e b = slc l m b := slc_join h3 h4 h5
  have j3 : slc l a m ++ slc l m b = slc l a b := slc_join (by omega) (by omega) h5
  have i1 : IncL (slc l a s) := by rw [slc_pre h2 h1]; exact p.sublist (List.take_sublist _ _)
  have i2 : IncL (slc l m e) := by rw [slc_pre h4 h3]; exact q.sublist (List.take_sublist _ _)
  have i3 : IncL (slc l s m) := by rw [slc_suf h1]; exact p.sublist (List.drop_sublist _ _)
  have i4 : IncL (slc l e b) := by rw [slc_suf h3]; exact q.sublist (List.drop_sublist _ _)
  have d1 : DifL (slc l a s ++ slc l m e) := by
    refine d.sublist ?_
    rw [← j3, ← j1, ← j2, List.append_assoc]
    exact (List.Sublist.refl _).append (((List.sublist_append_left _ _)).trans (List.sublist_append_right _ _))
  have d2 : DifL (slc l s m ++ slc l e b) := by
    refine d.sublist ?_
    rw [← j3, ← j1, ← j2, List.append_assoc]
    refine List.Sublist.trans ?_ (List.sublist_append_right _ _)
    exact (List.Sublist.refl _).append (List.sublist_append_right _ _)
  refine ⟨?_, d1, d2, i1, i2, i3, i4, ?_⟩
  · unfold rotF
    have e1 : l.take s = l.take a ++ slc l a s := by
      have : l.take a = (l.take s).take a := by rw [List.take_take]; congr 1; omega
      rw [this]
      unfold slc
      rw [List.take_append_drop]
    have e2 : l.drop e = slc l e b ++ l.drop b := by
      have := List.take_append_drop b l
      conv => lhs; rw [← this]
      rw [List.drop_append_of_le_length (by rw [List.length_take]; omega)]
      rfl
    rw [e1, e2]
    simp only [List.append_assoc]
  · refine srtH_eq d (inc_app (srtH_inc d1) (srtH_inc d2) fun g hg g' hg' => ?_) fun g => ?_
    · rw [mem_srtH, List.mem_append] at hg hg'
      rcases hg with hg | hg <;> rcases hg' with hg' | hg'
      · rw [← j1] at p
        exact (List.pairwise_append.1 p).2.2 g hg g' hg'
      · exact lr g hg g' hg'
      · exact rl g hg g' hg'
      · rw [← j2] at q
        exact (List.pairwise_append.1 q).2.2 g hg g' hg'
    · rw [List.mem_append, mem_srtH, mem_srtH, ← j3, ← j1, ← j2]
      simp only [List.mem_append]
      constructor
      · rintro ((h | h) | (h | h)) <;> simp [h]
      · rintro ((h | h) | (h | h)) <;> simp [h]
theorem gSo_t {l : List Hk} {a b : Nat} (hl : l.length ≤ 1000000) (h : a ≤ b) (hb : b ≤ l.length) (hg : gAll l) : gSo l (a : Int) (b : Int) = true := by
  unfold gSo
  rw [sm_t hl, ev_le_t (by omega), ev_le_t (by omega), ev_le_t (by omega)]
  simp only [Bool.true_and, List.all_eq_true]
  exact hg
theorem gSy_t {l : List Hk} {a m b : Nat} (hl : l.length ≤ 1000000) (h1 : a < m) (h2 : m < b) (hb : b ≤ l.length) (hg : gAll l) (p : IncL (slc l a m)) (q : IncL (slc l m b)) (d : DifL (slc l a b)) : gSy l (a : Int) (m : Int) (b : Int) = true := by
  unfold gSy
  simp only [Int.toNat_natCast]
  rw [gSo_t hl (by omega) hb hg, ev_lt_t (by omega), ev_lt_t (by omega)]
  have p' := incH_iff.2 p
  have q' := incH_iff.2 q
  have d' := difH_iff.2 d
  unfold slc at p' q' d'
  rw [p', q', d']; rfl
theorem gSy_of {l : List Hk} {a m b : Int} (g : gSy l a m b = true) : ∃ a' m' b' : Nat, a = a' ∧ m = m' ∧ b = b' ∧ a' < m' ∧ m' < b' ∧ b' ≤ l.length ∧ l.length ≤ 1000000 ∧ gAll l ∧ IncL (slc l a' m') ∧ IncL (slc l m' b') ∧ DifL (slc l a' b') := by
  unfold gSy at g
  simp only [Bool.and_eq_true] at g
  obtain ⟨g0, g1, g2, g3, g4, g5⟩ := g
  obtain ⟨a, b, rfl, rfl, h1, h2, h3, h4⟩ := gSo_of g0
  have g1 := ltI_t g1
  have g2 := ltI_t g2
  obtain ⟨m, rfl⟩ := Int.eq_ofNat_of_zero_le (show 0 ≤ m by omega)
  simp only [Int.toNat_natCast] at g3 g4 g5
  exact ⟨a, m, b, rfl, rfl, rfl, by omega, by omega, h2, h3, h4, incH_iff.1 g3, incH_iff.1 g4, difH_iff.1 g5⟩
end Go.Ab
namespace Go.Ab
open Go.Proofs

theorem half (x y : Nat) (h : x + y ≤ 4000000) : wrapI .i64 (Int.fdiv (wrapI .u64 (wrapI .i64 ((x : Int) + (y : Int)))) (2 ^ 1)) = (((x + y) / 2 : Nat) : Int) := by
  rw [w64 (n := (x : Int) + (y : Int)) (by omega) (by omega), wu64 (by omega) (by omega), Int.fdiv_eq_ediv_of_nonneg _ (by decide)]
  have : ((x : Int) + (y : Int)) / 2 ^ 1 = (((x + y) / 2 : Nat) : Int) := by
    rw [show ((2 : Int) ^ 1) = 2 from rfl]; omega
  rw [this, w64 (by omega) (by omega)]
abbrev kf (l : List Hk) (c : Nat) : Int := (l.getD c default).fr
theorem gK {l : List Hk} (hg : gAll l) {c : Nat} (h : c < l.length) : gNr (kf l c) = true := hg _ (getD_mem default h)
theorem atK {l : List Hk} {c : Nat} (h : c < l.length) : cI 0 (atL (eHs l) (c : Int)) = kf l c := by rw [eHs_at h]; rfl
theorem swap_adj2 {α : Type} (x s : List α) (g e : α) : ((x ++ g :: e :: s).set x.length e).set (x.length + 1) g = x ++ e :: g :: s := by
  exact swap_at x [] s g e

section
variable (z : Nat)
theorem shift_r (S : List Hk) (e : Hk) : ∀ (Y X : List Hk), (X ++ e :: (Y ++ S)).length ≤ 1000000 →
    Runs (cfg [(k_symN z), k_rot, k_cmp]) (sym_q9 ((X.length + Y.length + 1 : Nat) : Int) (X.length : Nat) (eHs (X ++ e :: (Y ++ S)))) [.lst 46 (eHs (X ++ (Y ++ e :: S)))]
  | [], X, h => by
    simp only [List.length_append, List.length_cons] at h
    refine Runs.by (sym_p9 · _ _ _ _) ?_
    rw [w64 (by omega) (by omega), ev_lt_f (by simp)]
    exact .ret
  | y :: Y, X, h => by
    have h' := h
    simp only [List.length_append, List.length_cons, List.cons_append] at h'
    have ek : (X.length : Int) + 1 = ((X.length + 1 : Nat) : Int) := by omega
    have ei : ((X.length + (y :: Y).length + 1 : Nat) : Int) - 1 = ((X.length + Y.length + 1 : Nat) : Int) := by simp; omega
    simp only [List.cons_append] at h ⊢
    have a1 : atL (eHs (X ++ e :: y :: (Y ++ S))) ((X.length + 1 : Nat) : Int) = eH y := by rw [eHs_at (by simp), getD_app1]
    have a2 : atL (eHs (X ++ e :: y :: (Y ++ S))) ((X.length : Nat) : Int) = eH e := by rw [eHs_at (by simp), getD_app]
    have a3 : atL (eHs ((X ++ e :: y :: (Y ++ S)).set X.length y)) ((X.length + 1 : Nat) : Int) = eH (((X ++ e :: y :: (Y ++ S)).set X.length y).getD (X.length + 1) default) := eHs_at (by simp)
    refine Runs.by (sym_p9 · _ _ _ _) ?_
    rw [ei]
    simp (disch := omega) only [ek, w64, eHs_len, List.length_append, List.length_cons, List.length_set, ev_lt_t, ev_le_t, Bool.and_self, cond_true, a1, a2, cI0_e, cI1_e, cX2_e, Int.toNat_natCast, eH_splice, eHs_set, a3, swap_adj2]
    have ih := shift_r S e Y (X ++ [y]) (by simpa using h)
    simp only [List.append_assoc, List.singleton_append, List.length_append, List.length_cons, List.length_nil] at ih
    rw [show X.length + (Y.length + 1) + 1 = X.length + (0 + 1) + Y.length + 1 by omega]
    exact .go ih
theorem shift_l (S : List Hk) (e : Hk) (X : List Hk) : ∀ (n : Nat) (Y : List Hk), Y.length = n → (X ++ (Y ++ e :: S)).length ≤ 1000000 →
    Runs (cfg [(k_symN z), k_rot, k_cmp]) (sym_q21 (X.length : Nat) ((X.length + Y.length : Nat) : Int) (eHs (X ++ (Y ++ e :: S)))) [.lst 46 (eHs (X ++ e :: (Y ++ S)))]
  | 0, Y, hn, h => by
    obtain rfl : Y = [] := List.eq_nil_of_length_eq_zero hn
    refine Runs.by (sym_p21 · _ _ _ _) ?_
    rw [ev_lt_f (by simp)]
    exact .ret
  | n + 1, Y, hn, h => by
    obtain ⟨Y, y, rfl⟩ : ∃ y g, Y = y ++ [g] := by
      rcases List.eq_nil_or_concat Y with rfl | ⟨y, g, rfl⟩
      · simp at hn
      · exact ⟨y, g, by simp⟩
    have hyl : Y.length = n := by simp at hn; omega
    have e0 : X ++ (Y ++ [y] ++ e :: S) = (X ++ Y) ++ y :: e :: S := by simp
    have l0 : (X ++ Y).length = X.length + Y.length := List.length_append
    rw [e0] at h ⊢
    have h' := h
    simp only [List.length_append, List.length_cons] at h'
    have ek : ((X.length + (Y ++ [y]).length : Nat) : Int) = (((X ++ Y).length + 1 : Nat) : Int) := by simp; omega
    have em : (((X ++ Y).length + 1 : Nat) : Int) - 1 = ((X ++ Y).length : Nat) := by omega
    have a1 : atL (eHs ((X ++ Y) ++ y :: e :: S)) (((X ++ Y).length + 1 : Nat) : Int) = eH e := by rw [eHs_at (by simp; omega), getD_app1]
    have a2 : atL (eHs ((X ++ Y) ++ y :: e :: S)) (((X ++ Y).length : Nat) : Int) = eH y := by rw [eHs_at (by simp), getD_app]
    have a3 : atL (eHs (((X ++ Y) ++ y :: e :: S).set ((X ++ Y).length + 1) y)) (((X ++ Y).length : Nat) : Int) = eH ((((X ++ Y) ++ y :: e :: S).set ((X ++ Y).length + 1) y).getD (X ++ Y).length default) := eHs_at (by simp)
    have sw := swap_adj (X ++ Y) S y e
    refine Runs.by (sym_p21 · _ _ _ _) ?_
    rw [ek]
    generalize hXY : X ++ Y = XY at *
    simp (disch := omega) only [em, w64, eHs_len, List.length_append, List.length_cons, List.length_set, ev_lt_t, ev_le_t, Bool.and_self, cond_true, a1, a2, cI0_e, cI1_e, cX2_e, Int.toNat_natCast, eH_splice, eHs_set, a3, sw]
    have ih := shift_l (y :: S) e X n Y hyl (by
      rw [← List.append_assoc, hXY]
      simp only [List.length_append, List.length_cons] at h ⊢
      omega)
    rw [← List.append_assoc, hXY, ← l0] at ih
    have : X ++ e :: (Y ++ [y] ++ S) = X ++ e :: (Y ++ y :: S) := by simp
    rw [this]
    exact .go ih

section
variable {l : List Hk} (hl : l.length ≤ 1000000) (hg : gAll l)
include hl hg
theorem bs1 {a m b : Nat} (ham : a < m) (hb : b ≤ l.length) (q : IncL (slc l m b)) (T : List L) (hT : ∀ i, m ≤ i → i ≤ b → (∀ c, m ≤ c → c < i → kf l c < kf l a) → (∀ c, i ≤ c → c < b → kf l a ≤ kf l c) → Runs (cfg [(k_symN z), k_rot, k_cmp]) (sym_q9 (i : Nat) (a : Nat) (eHs l)) T) :
    ∀ (n i j : Nat), j - i ≤ n → m ≤ i → i ≤ j → j ≤ b → (∀ c, m ≤ c → c < i → kf l c < kf l a) → (∀ c, j ≤ c → c < b → kf l a ≤ kf l c) → Runs (cfg [(k_symN z), k_rot, k_cmp]) (sym_q3 (a : Nat) (i : Nat) (j : Nat) (eHs l)) T
  | n, i, j, hn, h1, h2, h3, lo, hi => by
    refine Runs.by (sym_p3 · _ _ _ _ _) ?_
    by_cases he : i = j
    · rw [ev_lt_f (by omega)]
      exact .go (hT i h1 (by omega) lo (he ▸ hi))
    obtain ⟨n, rfl⟩ : ∃ k, n = k + 1 := ⟨n - 1, by omega⟩
    rw [ev_lt_t (by omega), half i j (by omega)]
    generalize hc : (i + j) / 2 = c
    have ec : (c : Int) + 1 = ((c + 1 : Nat) : Int) := by omega
    have kc := atK (l := l) (c := c) (by omega)
    have ka := atK (l := l) (c := a) (by omega)
    have gc := gNr_of (gK hg (c := c) (by omega))
    have ga := gNr_of (gK hg (c := a) (by omega))
    simp (disch := omega) only [kc, ka, gK hg (c := c) (by omega), gK hg (c := a) (by omega), eHs_len, ev_le_t, ev_lt_t, Bool.and_self, cond_true, w64, ec]
    by_cases hlt : kf l c < kf l a
    · rw [ev_lt_t (by omega)]
      refine .go (bs1 ham hb q T hT n (c + 1) j (by omega) (by omega) (by omega) h3 (fun d h4 h5 => ?_) hi)
      by_cases hd : d = c
      · rw [hd]; exact hlt
      · have := inc_get hb q h4 (show d < c by omega) (by omega)
        exact Int.lt_trans this hlt
    · rw [ev_lt_f (by omega)]
      refine .go (bs1 ham hb q T hT n i c (by omega) h1 (by omega) (by omega) lo (fun d h4 h5 => ?_))
      by_cases hd : d = c
      · rw [hd]; omega
      · have : kf l c < kf l d := inc_get hb q (by omega) (show c < d by omega) h5
        omega
theorem bs2 {a m : Nat} (hb : m < l.length) (p : IncL (slc l a m)) (T : List L) (hT : ∀ i, a ≤ i → i ≤ m → (∀ c, a ≤ c → c < i → kf l c ≤ kf l m) → (∀ c, i ≤ c → c < m → kf l m < kf l c) → Runs (cfg [(k_symN z), k_rot, k_cmp]) (sym_q21 (i : Nat) (m : Nat) (eHs l)) T) :
    ∀ (n i j : Nat), j - i ≤ n → a ≤ i → i ≤ j → j ≤ m → (∀ c, a ≤ c → c < i → kf l c ≤ kf l m) → (∀ c, j ≤ c → c < m → kf l m < kf l c) → Runs (cfg [(k_symN z), k_rot, k_cmp]) (sym_q15 (m : Nat) (i : Nat) (j : Nat) (eHs l)) T
  | n, i, j, hn, h1, h2, h3, lo, hi => by
    refine Runs.by (sym_p15 · _ _ _ _ _) ?_
    by_cases he : i = j
    · rw [ev_lt_f (by omega)]
      exact .go (hT i h1 (by omega) lo (he ▸ hi))
    obtain ⟨n, rfl⟩ : ∃ k, n = k + 1 := ⟨n - 1, by omega⟩
    rw [ev_lt_t (by omega), half i j (by omega)]
    generalize hc : (i + j) / 2 = c
    have ec : (c : Int) + 1 = ((c + 1 : Nat) : Int) := by omega
    have kc := atK (l := l) (c := c) (by omega)
    have ka := atK (l := l) (c := m) (by omega)
    have gc := gNr_of (gK hg (c := c) (by omega))
    have ga := gNr_of (gK hg (c := m) (by omega))
    simp (disch := omega) only [kc, ka, gK hg (c := c) (by omega), gK hg (c := m) (by omega), eHs_len, ev_le_t, ev_lt_t, Bool.and_self, cond_true, w64, ec]
    by_cases hlt : kf l m < kf l c
    · rw [ev_lt_t (by omega)]
      refine .go (bs2 hb p T hT n i c (by omega) h1 (by omega) (by omega) lo (fun d h4 h5 => ?_))
      by_cases hd : d = c
      · rw [hd]; exact hlt
      · have : kf l c < kf l d := inc_get (by omega) p (by omega) (show c < d by omega) h5
        omega
    · rw [ev_lt_f (by omega)]
      refine .go (bs2 hb p T hT n (c + 1) j (by omega) (by omega) (by omega) h3 (fun d h4 h5 => ?_) hi)
      by_cases hd : d = c
      · rw [hd]; omega
      · have : kf l d < kf l c := inc_get (by omega) p h4 (show d < c by omega) (by omega)
        omega
theorem bs3 {a m b mid lo hi : Nat} (ham : a ≤ lo) (hlo : mid + m ≤ lo + b) (hhm : hi ≤ m) (hhmid : hi ≤ mid) (hmid : mid ≤ b) (hmb : m ≤ b) (hb : b ≤ l.length) (p : IncL (slc l a m)) (q : IncL (slc l m b)) (T : List L)
    (hT : ∀ s, lo ≤ s → s ≤ hi → (∀ c, lo ≤ c → c < s → kf l c ≤ kf l (mid + m - 1 - c)) → (∀ c, s ≤ c → c < hi → kf l (mid + m - 1 - c) < kf l c) → Runs (cfg [(k_symN z), k_rot, k_cmp]) (sym_q33 (a : Nat) (m : Nat) (b : Nat) (mid : Nat) ((mid + m : Nat) : Int) (s : Nat) (s : Nat) ((mid + m - 1 : Nat) : Int) (eHs l)) T) :
    ∀ (n i j : Nat), j - i ≤ n → lo ≤ i → i ≤ j → j ≤ hi → (∀ c, lo ≤ c → c < i → kf l c ≤ kf l (mid + m - 1 - c)) → (∀ c, j ≤ c → c < hi → kf l (mid + m - 1 - c) < kf l c) → Runs (cfg [(k_symN z), k_rot, k_cmp]) (sym_q33 (a : Nat) (m : Nat) (b : Nat) (mid : Nat) ((mid + m : Nat) : Int) (i : Nat) (j : Nat) ((mid + m - 1 : Nat) : Int) (eHs l)) T
  | n, i, j, hn, h1, h2, h3, lo', hi' => by
    by_cases he : i = j
    · subst he
      exact hT i h1 (by omega) lo' hi'
    refine Runs.by (sym_p33 · _ _ _ _ _ _ _ _ _ _) ?_
    obtain ⟨n, rfl⟩ : ∃ k, n = k + 1 := ⟨n - 1, by omega⟩
    rw [ev_lt_t (a := (i : Int)) (b := (j : Int)) (by omega), half i j (by omega)]
    generalize hc : (i + j) / 2 = c
    have ec : (c : Int) + 1 = ((c + 1 : Nat) : Int) := by omega
    have ep : ((mid + m - 1 : Nat) : Int) - (c : Int) = ((mid + m - 1 - c : Nat) : Int) := by omega
    have kc := atK (l := l) (c := c) (by omega)
    have ka := atK (l := l) (c := mid + m - 1 - c) (by omega)
    have gc := gNr_of (gK hg (c := c) (by omega))
    have ga := gNr_of (gK hg (c := mid + m - 1 - c) (by omega))
    rw [ep, w64 (n := ((mid + m - 1 - c : Nat) : Int)) (by omega) (by omega), kc, ka, gK hg (c := c) (by omega), gK hg (c := mid + m - 1 - c) (by omega), eHs_len, ev_le_t (a := 0) (b := ((mid + m - 1 - c : Nat) : Int)) (by omega), ev_lt_t (a := ((mid + m - 1 - c : Nat) : Int)) (by omega),
      ev_le_t (a := 0) (b := (c : Int)) (by omega), ev_lt_t (a := (c : Int)) (by omega), w64 (n := (c : Int) + 1) (by omega) (by omega), ec]
    by_cases hlt : kf l (mid + m - 1 - c) < kf l c
    · rw [ev_lt_t (a := kf l (mid + m - 1 - c) - kf l c) (by omega)]
      refine .go (bs3 ham hlo hhm hhmid hmid hmb hb p q T hT n i c (by omega) h1 (by omega) (by omega) lo' (fun d h4 h5 => ?_))
      by_cases hd : d = c
      · rw [hd]; exact hlt
      · have e1 : kf l c < kf l d := inc_get (by omega) p (by omega) (show c < d by omega) (by omega)
        have e2 : kf l (mid + m - 1 - d) < kf l (mid + m - 1 - c) := inc_get hb q (by omega) (show mid + m - 1 - d < mid + m - 1 - c by omega) (by omega)
        omega
    · rw [ev_lt_f (a := kf l (mid + m - 1 - c) - kf l c) (by omega)]
      refine .go (bs3 ham hlo hhm hhmid hmid hmb hb p q T hT n (c + 1) j (by omega) (by omega) (by omega) h3 (fun d h4 h5 => ?_) hi')
      by_cases hd : d = c
      · rw [hd]; omega
      · have e1 : kf l d < kf l c := inc_get (by omega) p (by omega) (show d < c by omega) (by omega)
        have e2 : kf l (mid + m - 1 - c) < kf l (mid + m - 1 - d) := inc_get hb q (by omega) (show mid + m - 1 - c < mid + m - 1 - d by omega) (by omega)
        omega
end
end
end Go.Ab
