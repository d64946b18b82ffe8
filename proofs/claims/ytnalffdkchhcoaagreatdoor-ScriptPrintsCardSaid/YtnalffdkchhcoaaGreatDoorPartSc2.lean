/- The readers of strings, on both sides. -/
import Derived.Test.YtnalffdkchhcoaaGreatDoorPartSc1
import Derived.Test.YtnalffdkchhcoaaGreatDoorProg
import Derived.WalkKit
import Derived.WalkSpells
import Derived.Tactics
import Derived.Tactics2
import Derived.Defers
import Derived.Laws.Pointers
import Derived.Laws.LoneSync
import Derived.Laws.NewBlocks
import Derived.RegionTactic
import Derived.RegionCalls
import Derived.ChangeAlike
import Derived.KernelRfl
import Derived.LoopN
import Derived.Laws.Cover3
import Derived.Laws.IdiomCopy
import Derived.Laws.IdiomStrings
import Derived.Laws.BytesArg
import Derived.Laws.Build
import Derived.LoopTactic
import Derived.IntWalk
import Derived.Laws.CopyOwn
import Derived.Lib.ItoaNum
import Derived.Lib.IndexMore
import Derived.Lib.SplitLaws
namespace Go.Ab
open Go.Proofs

theorem leI_t {a b : Int} (h : leI a b = true) : a ≤ b := by simpa using h
theorem leI_f {a b : Int} (h : leI a b = false) : b < a := by simpa using h
theorem ws_holds : Holds k_ws := con_run (xs := [k_cc]) (hold1 cc_holds hold0) fun aa hp r h => by
  split at h
  case h_2 => cases h
  rename_i s xs
  obtain ⟨g, rfl⟩ := xo h
  rw [Bool.and_eq_true] at g
  have hl := Nat.le_of_ble_eq_true g.2
  refine Runs.by (wstr_e · _ _) ?_
  have e : (bytesOf s).length = s.size := by rw [bytesOf_e]; simp only [eB, List.length_map]; exact bl_size s
  rw [e, roomN_t (by omega) (by omega)]
  exact .ret
theorem wb_holds : Holds k_wb := con_run (xs := [k_cc]) (hold1 cc_holds hold0) fun aa hp r h => by
  split at h
  case h_2 => cases h
  rename_i c xs
  obtain ⟨g, rfl⟩ := xo h
  rw [Bool.and_eq_true] at g
  have hl := Nat.le_of_ble_eq_true g.2
  refine Runs.by (wbyte_e · _ _) ?_
  rw [roomN_t (by omega) (by omega)]
  exact .ret
theorem len_holds : Holds k_len := con_run (xs := []) hold0 fun aa hp r h => by
  split at h
  case h_2 => cases h
  obtain ⟨g, rfl⟩ := xo h
  exact Runs.by (blen_e · _) .ret
theorem args_i {C : Cfg} {w : World} {fz : Fz} {ρ : Rho} {vs : Array Value} {k : IntKind} {c : Int} (h : RepDs (Rep C.P w fz ρ) vs.toList [.lf (.int k c)]) : vs = #[.int k c] := by
  match hv : vs.toList, h with
  | [a], h =>
    simp only [RepDs, RepD] at h
    rw [arr1 hv, rep_int h.1]
theorem args_si {C : Cfg} {w : World} {fz : Fz} {ρ : Rho} {vs : Array Value} {s : ByteArray} {k : IntKind} {c : Int} (h : RepDs (Rep C.P w fz ρ) vs.toList [.lf (.str s), .lf (.int k c)]) : vs = #[.string s, .int k c] := by
  match hv : vs.toList, h with
  | [a, b], h =>
    simp only [RepDs, RepD] at h
    rw [arr2 hv, rep_str h.1, rep_int h.2.1]
theorem kx_ix : ((List.range 256).all fun c => decide (Lib.indexByte [34, 92, 110, 116] ((c : Int).toNat.toUInt8) = kx (c : Int))) = true := by decide +kernel
theorem kx_eq (c : Int) (h0 : 0 ≤ c) (h1 : c ≤ 255) : Lib.indexByte [34, 92, 110, 116] c.toNat.toUInt8 = kx c := by
  have := List.all_eq_true.1 kx_ix c.toNat (by simp; omega)
  rw [Int.toNat_of_nonneg h0] at this
  exact of_decide_eq_true this
theorem kinds3 : kinds (cfg []).P 3 = [.int .i64] := by kernel_rfl
theorem agg3 : isAggT (cfg []).P 3 = false := by kernel_rfl
theorem IndexByte2_holds : Holds k_IndexByte2 := extFor_tabs (C := cfg []) (fn := Tryz.f85) (t := 3) (k := .int .i64) Tryz.func85 rfl kinds3 agg3 (by simp) fun aa hp r h => by
  simp only [k_IndexByte2] at h
  split at h
  case h_2 => cases h
  rename_i s c
  obtain ⟨g, rfl⟩ := xo h
  rw [Bool.and_eq_true, Bool.and_eq_true] at g
  have g1 : bl s = [34, 92, 110, 116] := by simpa using g.1
  have g2 := leI_t g.2.1
  have g3 := leI_t g.2.2
  refine ⟨_, rfl, rfl, ⟨_, rfl⟩, fun w fz ρ vs ht ha => ⟨_, fun w' => .int _ _, ?_⟩⟩
  rw [args_si ha]
  refine (Tryz.stringslite_IndexByte s c w).mono ?_
  rintro e w' ⟨rfl, rfl⟩
  have e1 : Lib.indexByte s.data.toList c.toNat.toUInt8 = kx c := by
    have : s.data.toList = [34, 92, 110, 116] := g1
    rw [this, kx_eq c g2 g3]
  rw [e1]
  exact ⟨rfl, rfl, rfl, rfl, Nat.le_refl _, fun _ _ => rfl⟩
theorem IndexByte_holds : Holds k_IndexByte := con_run (xs := [k_IndexByte2]) (hold1 IndexByte2_holds hold0) fun aa hp r h => by
  simp only [k_IndexByte2] at h
  split at h
  case h_2 => cases h
  rename_i s c
  obtain ⟨g, rfl⟩ := xo h
  refine Runs.by (ixb_e · _ _) ?_
  rw [g]
  exact .ret

theorem txt_cons (c : UInt8) (t acc : W) : txt (c :: t) acc = if c.toNat = 34 then some (acc, t) else if c.toNat < 32 ∨ 126 < c.toNat then none else if c.toNat = 92 then (match t with
      | d :: t' => (match esc d with
        | some e => txt t' (acc ++ [e])
        | none => none)
      | [] => none) else txt t (acc ++ [c]) := by
  cases t with
  | nil =>
    simp only [txt]
    by_cases h1 : c.toNat = 34
    · simp [h1]
    · by_cases h2 : c.toNat < 32 ∨ 126 < c.toNat
      · simp [h1, h2]
      · simp [h1, h2]
  | cons d t => first | (rw [txt]; done) | (rw [txt]; rfl)
theorem kx_cases (d : UInt8) : (kx (d.toNat : Nat) = -1 ∧ esc d = none) ∨ ∃ (k : Nat) (e : UInt8), kx (d.toNat : Nat) = (k : Nat) ∧ k < 4 ∧ byI (mk [34, 92, 10, 9]) (k : Nat) = (e.toNat : Nat) ∧ esc d = some e := by
  unfold kx esc
  by_cases h1 : d.toNat = 34
  · exact .inr ⟨0, 34, by rw [if_pos (by omega)]; rfl, by decide, rfl, by rw [if_pos h1]⟩
  · rw [if_neg (by omega), if_neg h1]
    by_cases h2 : d.toNat = 92
    · exact .inr ⟨1, 92, by rw [if_pos (by omega)]; rfl, by decide, rfl, by rw [if_pos h2]⟩
    · rw [if_neg (by omega), if_neg h2]
      by_cases h3 : d.toNat = 110
      · exact .inr ⟨2, 10, by rw [if_pos (by omega)]; rfl, by decide, rfl, by rw [if_pos h3]⟩
      · rw [if_neg (by omega), if_neg h3]
        by_cases h4 : d.toNat = 116
        · exact .inr ⟨3, 9, by rw [if_pos (by omega)]; rfl, by decide, rfl, by rw [if_pos h4]⟩
        · rw [if_neg (by omega), if_neg h4]
          exact .inl ⟨rfl, rfl⟩
def ptF (s : W) (r : Option (W × W)) : List L := match r with
  | some (o, t) => [.str (mk o), .str (mk t), .bool (!sh o)]
  | none => [.str (mk []), .str (mk s), .bool true]
theorem ltI_sh (o : W) : ltI 2000 (o.length : Nat) = !sh o := by
  unfold sh
  by_cases h : o.length ≤ 2000
  · rw [ev_lt_f (by omega), Nat.ble_eq_true_of_le h]; rfl
  · rw [ev_lt_t (by omega)]
    have : Nat.ble o.length 2000 = false := by rw [← Bool.not_eq_true, Nat.ble_eq]; omega
    rw [this]; rfl
theorem u8_le (c : UInt8) : c.toNat ≤ 255 := by have := c.toNat_lt; omega
theorem eB_snoc (acc : W) (c : UInt8) : eB acc ++ [[L.int IntKind.u8 c.toNat]] = eB (acc ++ [c]) := eB_app acc [c]
theorem ptext_loop (s : W) (hs : s.length ≤ 1000000) : ∀ (m i : Nat) (acc : W), s.length ≤ i + m → i ≤ 1000000 → acc.length ≤ i →
    Runs (cfg [k_pnext, k_len, k_bs, k_wb, k_IndexByte]) (ptext_q6 (i : Nat) (mk s) false (eB acc)) (ptF s (txt (s.drop i) acc)) := by
  intro m
  induction m using Nat.strongRecOn with
  | ind m ih =>
    intro i acc h hi ha
    refine Runs.by (ptext_p6 · _ _ _ _) ?_
    simp only [size_mk]
    by_cases hl : i < s.length
    · rw [drop_at 0 hl, txt_cons]
      have hb := u8_le (s.getD i 0)
      have nble : Nat.ble acc.length 100000000000 = true := Nat.ble_eq_true_of_le (by omega)
      simp (disch := omega) only [ev_lt_t, ev_le_t, Bool.and_self, cond_true, byI_mk, w64, isBy_e, eB_len, nble, dB_e, ext_all, cond_false]
      by_cases h34 : (s.getD i 0).toNat = 34
      · rw [if_pos h34, ev_eq_t (by omega)]
        simp only [cond_true, ltI_sh]
        exact .ret
      · rw [if_neg h34, ev_eq_f (by omega)]
        simp only [cond_false]
        by_cases hlo : (s.getD i 0).toNat < 32
        · rw [if_pos (.inl hlo), ev_lt_t (by omega)]
          exact .ret
        · rw [ev_lt_f (by omega)]
          simp only [cond_false]
          by_cases hhi : 126 < (s.getD i 0).toNat
          · rw [if_pos (.inr hhi), ev_lt_t (by omega)]
            exact .ret
          · rw [if_neg (by omega), ev_lt_f (by omega)]
            simp only [cond_false]
            by_cases h92 : (s.getD i 0).toNat = 92
            · rw [if_pos h92, ev_eq_t (by omega)]
              simp only [cond_true]
              by_cases he : i + 1 = s.length
              · rw [ev_eq_t (by omega), drop_end (by omega)]
                exact .ret
              · rw [ev_eq_f (by omega), drop_at 0 (by omega)]
                have hb2 := u8_le (s.getD (i + 1) 0)
                simp (disch := omega) only [ev_lt_t, Bool.and_self, cond_true, cond_false]
                have b1 : byI (mk s) ((i : Int) + 1) = ((s.getD (i + 1) 0).toNat : Nat) := byI_mk s (i + 1)
                simp only [b1]
                have go := fun e => ih (m - 2) (by omega) (i + 2) (acc ++ [e]) (by omega) (by omega) (by simp; omega)
                rcases kx_cases (s.getD (i + 1) 0) with ⟨k1, k2⟩ | ⟨k, e, k1, k2, k3, k4⟩
                · rw [k1, k2]
                  simp (disch := omega) only [ev_le_t, ev_lt_t, Bool.and_self, cond_true]
                  exact .ret
                · rw [k1, k4]
                  simp (disch := omega) only [ev_lt_t, ev_le_t, ev_lt_f, Bool.and_self, cond_true, cond_false, k3]
                  exact .go (by have := go e; rw [show ((i + 2 : Nat) : Int) = (i : Int) + 1 + 1 by omega] at this; rw [eB_snoc]; exact this)
            · rw [if_neg h92, ev_eq_f (by omega)]
              simp only [cond_false]
              rw [eB_snoc]
              exact .go (ih (m - 1) (by omega) (i + 1) (acc ++ [s.getD i 0]) (by omega) (by omega) (by simp; omega))
    · rw [drop_end (by omega)]
      simp (disch := omega) only [ev_lt_f, cond_false]
      exact .ret
theorem nxB {s : W} {b : Bool} (h : nxO s b = true) : nxS s b = s.drop 1 := by unfold nxS; rw [h]; rfl
theorem q34 (c : UInt8) (t : W) : (byI (mk (c :: t)) 0 != 34) = !decide (c.toNat = 34) := by
  have e0 : byI (mk (c :: t)) 0 = (c.toNat : Int) := byI_mk (c :: t) 0
  rw [e0]
  by_cases h : c.toNat = 34
  · rw [ev_ne_f (by omega), decide_eq_true h]; rfl
  · rw [ev_ne_t (by omega), decide_eq_false h]; rfl
theorem ptext_holds : Holds k_ptext := conRd_of (ks := [k_pnext, k_len, k_bs, k_wb, k_IndexByte]) (hold1 pnext_holds (hold1 len_holds (hold1 bs_holds (hold1 wb_holds (hold1 IndexByte_holds hold0))))) fun s b g => by
  have g := sm_of g
  refine Runs.by (ptext_e · _ _) ?_
  have eb : bl (mk s) = s := rfl
  unfold ptO ptV ptS stR
  simp only [eb]
  have hlen := nxS_len s b
  cases h : nxO s b
  · have e : nxS s b = s := by unfold nxS; rw [h]; rfl
    simp only [Bool.not_false, cond_true, e]
    exact .ret
  · rw [nxB h]
    simp only [Bool.not_true, cond_false, cond_true, Bool.true_and, size_mk]
    rw [nxB h] at hlen
    generalize s.drop 1 = u at *
    cases u with
    | nil => exact .ret
    | cons c t =>
      rw [show (bl (mk (c :: t)) == bl (mk [])) = false from rfl, q34]
      simp (disch := simp only [List.length_cons]; omega) only [cond_false, ev_lt_t, cond_true]
      by_cases hc : c.toNat = 34
      · have lp := ptext_loop (c :: t) (by omega) (c :: t).length 1 [] (by omega) (by omega) (by simp)
        rw [decide_eq_true hc]
        have eq : txq (c :: t) = txt t [] := by unfold txq; exact if_pos hc
        unfold tO tV tR
        rw [eq]
        rw [List.drop_succ_cons, List.drop_zero] at lp
        cases hx : txt t [] with
        | none => rw [hx] at lp; exact .go lp
        | some x => rw [hx] at lp; exact .go lp
      · rw [decide_eq_false hc]
        have eq : txq (c :: t) = none := by unfold txq; exact if_neg hc
        unfold tO tV tR
        rw [eq]
        exact .ret
def atF (s : W) (b : Bool) (r : Option (W × W)) : List L := match r with
  | some (o, t) => cond (sh o) [.str (mk o), .str (mk t), .bool b] [.str (mk []), .str (mk s), .bool true]
  | none => [.str (mk []), .str (mk s), .bool true]
theorem atext_loop (s : W) (b : Bool) (hs : s.length ≤ 1000000) : ∀ (m i : Nat) (acc : W), s.length ≤ i + m → i ≤ 1000000 → acc.length ≤ i →
    Runs (cfg [k_anext]) (atext_q7 (i : Nat) (mk s) b (eB acc)) (atF s b (txt (s.drop i) acc)) := by
  intro m
  induction m using Nat.strongRecOn with
  | ind m ih =>
    intro i acc h hi ha
    refine Runs.by (atext_p7 · _ _ _ _) ?_
    have eB' : ByteArray.mk (List.toArray (List.map (fun c => UInt8.ofNat (Int.toNat (cI 0 c))) (eB acc))) = mk acc := congrArg mk (dB_e acc)
    have rm : roomN (acc.length + 1) 1 = true := roomN_t (by omega) (by omega)
    have rm2 : roomN (acc.length + 1) 1 = true := roomN_t (by omega) (by omega)
    simp only [size_mk, eB', eB_len]
    by_cases hl : i < s.length
    · rw [drop_at 0 hl, txt_cons]
      have hb := u8_le (s.getD i 0)
      simp (disch := omega) only [ev_lt_t, ev_le_t, Bool.and_self, cond_true, byI_mk, w64, rm, ext_all]
      by_cases h34 : (s.getD i 0).toNat = 34
      · rw [if_pos h34, ev_ne_f (by omega)]
        have tn : ((i : Int) + 1).toNat = i + 1 := by omega
        simp (disch := omega) only [cond_false, ltI_sh, ev_le_f, tn]
        show RunsF _ _ (cond (sh acc) [.str (mk acc), .str (mk (s.drop (i + 1))), .bool b] [.str (mk []), .str (mk s), .bool true])
        cases sh acc
        · exact .ret
        · exact .ret
      · rw [if_neg h34, ev_ne_t (by omega)]
        simp only [cond_true]
        by_cases hlo : (s.getD i 0).toNat < 32
        · rw [if_pos (.inl hlo), ev_lt_t (by omega)]
          exact .ret
        · rw [ev_lt_f (by omega)]
          simp only [cond_false]
          by_cases hhi : 126 < (s.getD i 0).toNat
          · rw [if_pos (.inr hhi), ev_lt_t (by omega)]
            exact .ret
          · rw [if_neg (by omega), ev_lt_f (by omega)]
            simp only [cond_false]
            by_cases h92 : (s.getD i 0).toNat = 92
            · rw [if_pos h92, ev_eq_t (by omega)]
              simp only [cond_true]
              by_cases he : i + 1 = s.length
              · have hd : s.drop (i + 1) = [] := drop_end (by omega)
                rw [hd]
                simp (disch := omega) only [ev_eq_t, cond_true, ev_le_t]
                exact .ret
              · have hd : s.drop (i + 1) = s.getD (i + 1) 0 :: s.drop (i + 1 + 1) := drop_at 0 (by omega)
                rw [ev_eq_f (by omega), hd]
                have b1 : byI (mk s) ((i : Int) + 1) = ((s.getD (i + 1) 0).toNat : Nat) := byI_mk s (i + 1)
                have hb2 := u8_le (s.getD (i + 1) 0)
                simp (disch := omega) only [ev_lt_t, ev_le_t, Bool.and_self, cond_true, b1, cond_false]
                have go := fun e => ih (m - 2) (by omega) (i + 2) (acc ++ [e]) (by omega) (by omega) (by simp; omega)
                have go' : ∀ e : UInt8, Runs (cfg [k_anext]) (atext_q7 ((i : Int) + 1 + 1) (mk s) b (eB acc ++ [[L.int IntKind.u8 e.toNat]])) (atF s b (txt (s.drop (i + 2)) (acc ++ [e]))) := fun e => by
                  have := go e
                  rw [show ((i + 2 : Nat) : Int) = (i : Int) + 1 + 1 by omega] at this
                  rw [eB_snoc]; exact this
                generalize s.getD (i + 1) 0 = d at *
                unfold esc
                by_cases d1 : d.toNat = 34
                · have ed : d = 34 := UInt8.toNat_inj.1 d1
                  subst ed
                  exact .go (go' 34)
                · rw [if_neg d1]
                  by_cases d2 : d.toNat = 92
                  · have ed : d = 92 := UInt8.toNat_inj.1 d2
                    subst ed
                    exact .go (go' 92)
                  · rw [if_neg d2]
                    by_cases d3 : d.toNat = 110
                    · have ed : d = 110 := UInt8.toNat_inj.1 d3
                      subst ed
                      exact .go (go' 10)
                    · rw [if_neg d3, ev_eq_f (by omega)]
                      simp only [cond_false]
                      by_cases d4 : d.toNat = 116
                      · have ed : d = 116 := UInt8.toNat_inj.1 d4
                        subst ed
                        exact .go (go' 9)
                      · rw [if_neg d4, ev_eq_f (by omega), ev_eq_f (by omega), ev_eq_f (by omega)]
                        exact .ret
            · rw [if_neg h92, ev_eq_f (by omega)]
              simp only [cond_false]
              rw [eB_snoc]
              exact .go (ih (m - 1) (by omega) (i + 1) (acc ++ [s.getD i 0]) (by omega) (by omega) (by simp; omega))
    · rw [drop_end (by omega)]
      simp (disch := omega) only [ev_lt_f, cond_false, ev_le_t, cond_true]
      exact .ret
theorem atext_holds : Holds k_atext := conRd_of (ks := [k_anext]) (hold1 anext_holds hold0) fun s b g => by
  have g := sm_of g
  refine Runs.by (atext_e · _ _) ?_
  have eb : bl (mk s) = s := rfl
  unfold atV atS atO stR
  simp only [eb]
  have hlen := anS_len s
  generalize anB s b = b1 at *
  generalize anS s = u at *
  simp only [size_mk]
  cases u with
  | nil =>
    cases b1 <;> exact .ret
  | cons c t =>
    rw [show (bl (mk (c :: t)) == bl (mk [])) = false from rfl, q34]
    simp (disch := simp only [List.length_cons]; omega) only [cond_false, ev_lt_t, cond_true]
    by_cases hc : c.toNat = 34
    · have lp := atext_loop (c :: t) b1 (by omega) (c :: t).length 1 [] (by omega) (by omega) (by simp)
      rw [decide_eq_true hc]
      have eq : txq (c :: t) = txt t [] := by unfold txq; exact if_pos hc
      unfold tO tV tR
      rw [eq]
      rw [List.drop_succ_cons, List.drop_zero] at lp
      cases hx : txt t [] with
      | none =>
        rw [hx] at lp
        cases b1 <;> exact .go lp
      | some x =>
        rw [hx] at lp
        unfold atF at lp
        simp only [Option.isSome_some, Bool.true_and]
        cases hs : sh x.1
        · simp only [hs, cond_false] at lp
          cases b1 <;> exact .go lp
        · simp only [hs, cond_true] at lp
          cases b1 <;> exact .go lp
    · rw [decide_eq_false hc]
      have eq : txq (c :: t) = none := by unfold txq; exact if_neg hc
      unfold tO tV tR
      rw [eq]
      cases b1 <;> exact .ret
end Go.Ab
namespace Go.Ab
open Go.Proofs
theorem hasP_e (G : Req → R) (s0 : ByteArray) (prefix1 : ByteArray) : runB (cfg []) G (.enter 100 [(.lf (.str (s0))), (.lf (.str (prefix1)))] []) =
 (cond (leI (↑(ByteArray.size prefix1) : Int) (↑(ByteArray.size s0) : Int))
 (cond (leI 0 (↑(ByteArray.size prefix1) : Int) && leI (↑(ByteArray.size prefix1) : Int) (↑(ByteArray.size s0) : Int))
 (some [(.bool (bl (ByteArray.extract s0 0 (Int.toNat (↑(ByteArray.size prefix1) : Int))) == bl prefix1))])
 none)
 (some [(.bool (false))])) := by kernel_rfl

theorem trim2_e (G : Req → R) (s0 : ByteArray) (prefix1 : ByteArray) : runB (cfg [k_hasP]) G (.enter 84 [(.lf (.str (s0))), (.lf (.str (prefix1)))] []) =
 (cond (Nat.ble (ByteArray.size s0) 1000000000 && Nat.ble (ByteArray.size prefix1) 1000000000)
 (cond (List.isPrefixOf (bl prefix1) (bl s0))
 (cond (leI 0 (↑(ByteArray.size prefix1) : Int) && leI (↑(ByteArray.size prefix1) : Int) (↑(ByteArray.size s0) : Int))
 (some [(.str (ByteArray.extract s0 (Int.toNat (↑(ByteArray.size prefix1) : Int)) (ByteArray.size s0)))])
 none)
 (some [(.str (s0))]))
 none) := by kernel_rfl

theorem trim_e (G : Req → R) (s0 : ByteArray) (prefix1 : ByteArray) : runB (cfg [k_trim2]) G (.enter 64 [(.lf (.str (s0))), (.lf (.str (prefix1)))] []) =
 (cond (Nat.ble (ByteArray.size s0) 1000000 && bl prefix1 == [45])
 (some [(.str (mk (digs (bl s0))))])
 none) := by kernel_rfl

noncomputable def pnum_q8 (w3 : ByteArray) (digits4 : ByteArray) (n5 : Int) (x31 : Int) (x32 : Int) (h0_0 : ByteArray) (h0_1 : Bool) : Req := .point 40 [(.box [.str, .bool] [.any, .any])] (todoAt Tryz.prog 40 8) ⟨[(.lf (.ptr 0 0)), an, an, (.lf (.str w3)), (.lf (.str digits4)), (.lf (.int IntKind.i64 n5)), an, an, an, an, an, an, an, an, an, an, an, an, an, an, an, an, an, an, an, an, an, an, an, an, an, (.lf (.int IntKind.i64 x31)), (.lf (.int IntKind.i64 x32)), an, an, an, an, an, an, an, an, an, an, an, an, an, an, an, an, an, an, an, an, an, an, an, an, an, an, an, an, an, an, an, an], [(.box [.str, .bool] [(.str h0_0), (.bool h0_1)])]⟩
theorem pnum_e (G : Req → R) (r0_0 : ByteArray) (r0_1 : Bool) : runB (cfg [k_raw, k_trim]) G (.enter 40 [(.lf (.ptr 0 0))] [(.box [.str, .bool] [(.str (r0_0)), (.bool (r0_1))])]) =
 (cond (sm (List.length (bl r0_0)))
 (cond (Nat.ble (ByteArray.size (mk (rwW (bl r0_0) r0_1))) 1000000 && true)
 (cond (bl (mk (digs (bl (mk (rwW (bl r0_0) r0_1))))) == bl (mk []))
 (some [(.int IntKind.i64 (0)), (.str (mk (rwS (bl r0_0) r0_1))), (.bool (true))])
 (cond (ltI 9 (↑(ByteArray.size (mk (digs (bl (mk (rwW (bl r0_0) r0_1)))))) : Int))
 (some [(.int IntKind.i64 (0)), (.str (mk (rwS (bl r0_0) r0_1))), (.bool (true))])
 (cond (ltI 0 (↑(ByteArray.size (mk (digs (bl (mk (rwW (bl r0_0) r0_1)))))) : Int))
 (cond (byI (mk (digs (bl (mk (rwW (bl r0_0) r0_1))))) 0 == 48)
 (cond (!bl (mk (rwW (bl r0_0) r0_1)) == bl (mk [48]))
 (some [(.int IntKind.i64 (0)), (.str (mk (rwS (bl r0_0) r0_1))), (.bool (true))])
 (G (pnum_q8 (mk (rwW (bl r0_0) r0_1)) (mk (digs (bl (mk (rwW (bl r0_0) r0_1))))) 0 ((↑(ByteArray.size (mk (digs (bl (mk (rwW (bl r0_0) r0_1)))))) : Int)) 0 (mk (rwS (bl r0_0) r0_1)) (!nxO (bl r0_0) r0_1))))
 (G (pnum_q8 (mk (rwW (bl r0_0) r0_1)) (mk (digs (bl (mk (rwW (bl r0_0) r0_1))))) 0 ((↑(ByteArray.size (mk (digs (bl (mk (rwW (bl r0_0) r0_1)))))) : Int)) 0 (mk (rwS (bl r0_0) r0_1)) (!nxO (bl r0_0) r0_1))))
 none)))
 none)
 none) := by kernel_rfl
theorem pnum_p8 (G : Req → R) (w3 : ByteArray) (digits4 : ByteArray) (n5 : Int) (x31 : Int) (x32 : Int) (h0_0 : ByteArray) (h0_1 : Bool) : runB (cfg [k_raw, k_trim]) G (pnum_q8 w3 digits4 n5 x31 x32 h0_0 h0_1) =
 (cond (ltI x32 x31)
 (cond (leI 0 x32 && ltI x32 (↑(ByteArray.size digits4) : Int))
 (cond (ltI (byI digits4 x32) 48)
 (some [(.int IntKind.i64 (0)), (.str (h0_0)), (.bool (true))])
 (cond (leI 0 x32 && ltI x32 (↑(ByteArray.size digits4) : Int))
 (cond (ltI 57 (byI digits4 x32))
 (some [(.int IntKind.i64 (0)), (.str (h0_0)), (.bool (true))])
 (cond (leI 0 x32 && ltI x32 (↑(ByteArray.size digits4) : Int))
 (G (pnum_q8 w3 digits4 (wrapI IntKind.i64 (wrapI IntKind.i64 (10 * n5) + wrapI IntKind.i64 (wrapI IntKind.u8 (byI digits4 x32 - 48)))) x31 (wrapI IntKind.i64 (x32 + 1)) h0_0 h0_1))
 none))
 none))
 none)
 (cond (ltI (↑(ByteArray.size digits4) : Int) (↑(ByteArray.size w3) : Int))
 (some [(.int IntKind.i64 (wrapI IntKind.i64 (0 - n5))), (.str (h0_0)), (.bool (h0_1))])
 (some [(.int IntKind.i64 (n5)), (.str (h0_0)), (.bool (h0_1))]))) := by kernel_rfl

noncomputable def anum_q11 (d4 : ByteArray) (minus5 : Bool) (n6 : Int) (i7 : Int) (h0_0 : ByteArray) (h0_1 : Bool) : Req := .point 70 [(.box [.str, .bool] [.any, .any])] (todoAt Tryz.prog 70 11) ⟨[(.lf (.ptr 0 0)), an, an, an, (.lf (.str d4)), (.lf (.bool minus5)), (.lf (.int IntKind.i64 n6)), (.lf (.int IntKind.i64 i7)), an, an, an, an, an, an, an, an, an, an, an, an, an, an, an, an, an, an, an, an, an, an, an, an, an, an, an, an, an, an, an, an, an, an, an, an, an, an, an, an, an, an, an, an, an, an, an, an, an, an, an, an, an, an, an, an, an, an, an, an, an, an, an, an, an, an, an, an, an], [(.box [.str, .bool] [(.str h0_0), (.bool h0_1)])]⟩
theorem anum_e (G : Req → R) (a0_0 : ByteArray) (a0_1 : Bool) : runB (cfg [k_aword]) G (.enter 70 [(.lf (.ptr 0 0))] [(.box [.str, .bool] [(.str (a0_0)), (.bool (a0_1))])]) =
 (cond (sm (List.length (bl a0_0)))
 (cond (ltI 0 (↑(ByteArray.size (mk (vis (anS (bl a0_0))))) : Int))
 (cond (ltI 0 (↑(ByteArray.size (mk (vis (anS (bl a0_0))))) : Int))
 (cond (byI (mk (vis (anS (bl a0_0)))) 0 == 45)
 (cond (leI 1 (↑(ByteArray.size (mk (vis (anS (bl a0_0))))) : Int))
 (cond (ltI (↑(ByteArray.size (ByteArray.extract (mk (vis (anS (bl a0_0)))) 1 (ByteArray.size (mk (vis (anS (bl a0_0))))))) : Int) 1)
 (some [(.int IntKind.i64 (0)), (.str (mk (List.drop (List.length (vis (anS (bl a0_0)))) (anS (bl a0_0))))), (.bool (true))])
 (cond (ltI 9 (↑(ByteArray.size (ByteArray.extract (mk (vis (anS (bl a0_0)))) 1 (ByteArray.size (mk (vis (anS (bl a0_0))))))) : Int))
 (some [(.int IntKind.i64 (0)), (.str (mk (List.drop (List.length (vis (anS (bl a0_0)))) (anS (bl a0_0))))), (.bool (true))])
 (cond (ltI 0 (↑(ByteArray.size (ByteArray.extract (mk (vis (anS (bl a0_0)))) 1 (ByteArray.size (mk (vis (anS (bl a0_0))))))) : Int))
 (cond (byI (ByteArray.extract (mk (vis (anS (bl a0_0)))) 1 (ByteArray.size (mk (vis (anS (bl a0_0)))))) 0 == 48)
 (cond (ltI 1 (↑(ByteArray.size (ByteArray.extract (mk (vis (anS (bl a0_0)))) 1 (ByteArray.size (mk (vis (anS (bl a0_0))))))) : Int))
 (some [(.int IntKind.i64 (0)), (.str (mk (List.drop (List.length (vis (anS (bl a0_0)))) (anS (bl a0_0))))), (.bool (true))])
 (cond (byI (mk (vis (anS (bl a0_0)))) 0 == 45)
 (some [(.int IntKind.i64 (0)), (.str (mk (List.drop (List.length (vis (anS (bl a0_0)))) (anS (bl a0_0))))), (.bool (true))])
 (G (anum_q11 (ByteArray.extract (mk (vis (anS (bl a0_0)))) 1 (ByteArray.size (mk (vis (anS (bl a0_0)))))) (byI (mk (vis (anS (bl a0_0)))) 0 == 45) 0 0 (mk (List.drop (List.length (vis (anS (bl a0_0)))) (anS (bl a0_0)))) (anB (bl a0_0) a0_1 || !awOk (vis (anS (bl a0_0))))))))
 (G (anum_q11 (ByteArray.extract (mk (vis (anS (bl a0_0)))) 1 (ByteArray.size (mk (vis (anS (bl a0_0)))))) (byI (mk (vis (anS (bl a0_0)))) 0 == 45) 0 0 (mk (List.drop (List.length (vis (anS (bl a0_0)))) (anS (bl a0_0)))) (anB (bl a0_0) a0_1 || !awOk (vis (anS (bl a0_0)))))))
 none)))
 none)
 (cond (ltI (↑(ByteArray.size (mk (vis (anS (bl a0_0))))) : Int) 1)
 (some [(.int IntKind.i64 (0)), (.str (mk (List.drop (List.length (vis (anS (bl a0_0)))) (anS (bl a0_0))))), (.bool (true))])
 (cond (ltI 9 (↑(ByteArray.size (mk (vis (anS (bl a0_0))))) : Int))
 (some [(.int IntKind.i64 (0)), (.str (mk (List.drop (List.length (vis (anS (bl a0_0)))) (anS (bl a0_0))))), (.bool (true))])
 (cond (ltI 0 (↑(ByteArray.size (mk (vis (anS (bl a0_0))))) : Int))
 (cond (byI (mk (vis (anS (bl a0_0)))) 0 == 48)
 (cond (ltI 1 (↑(ByteArray.size (mk (vis (anS (bl a0_0))))) : Int))
 (some [(.int IntKind.i64 (0)), (.str (mk (List.drop (List.length (vis (anS (bl a0_0)))) (anS (bl a0_0))))), (.bool (true))])
 (cond (byI (mk (vis (anS (bl a0_0)))) 0 == 45)
 (some [(.int IntKind.i64 (0)), (.str (mk (List.drop (List.length (vis (anS (bl a0_0)))) (anS (bl a0_0))))), (.bool (true))])
 (G (anum_q11 (mk (vis (anS (bl a0_0)))) (byI (mk (vis (anS (bl a0_0)))) 0 == 45) 0 0 (mk (List.drop (List.length (vis (anS (bl a0_0)))) (anS (bl a0_0)))) (anB (bl a0_0) a0_1 || !awOk (vis (anS (bl a0_0))))))))
 (G (anum_q11 (mk (vis (anS (bl a0_0)))) (byI (mk (vis (anS (bl a0_0)))) 0 == 45) 0 0 (mk (List.drop (List.length (vis (anS (bl a0_0)))) (anS (bl a0_0)))) (anB (bl a0_0) a0_1 || !awOk (vis (anS (bl a0_0)))))))
 none))))
 none)
 (cond (ltI (↑(ByteArray.size (mk (vis (anS (bl a0_0))))) : Int) 1)
 (some [(.int IntKind.i64 (0)), (.str (mk (List.drop (List.length (vis (anS (bl a0_0)))) (anS (bl a0_0))))), (.bool (true))])
 (cond (ltI 9 (↑(ByteArray.size (mk (vis (anS (bl a0_0))))) : Int))
 (some [(.int IntKind.i64 (0)), (.str (mk (List.drop (List.length (vis (anS (bl a0_0)))) (anS (bl a0_0))))), (.bool (true))])
 (cond (ltI 0 (↑(ByteArray.size (mk (vis (anS (bl a0_0))))) : Int))
 (cond (byI (mk (vis (anS (bl a0_0)))) 0 == 48)
 (cond (ltI 1 (↑(ByteArray.size (mk (vis (anS (bl a0_0))))) : Int))
 (some [(.int IntKind.i64 (0)), (.str (mk (List.drop (List.length (vis (anS (bl a0_0)))) (anS (bl a0_0))))), (.bool (true))])
 (G (anum_q11 (mk (vis (anS (bl a0_0)))) false 0 0 (mk (List.drop (List.length (vis (anS (bl a0_0)))) (anS (bl a0_0)))) (anB (bl a0_0) a0_1 || !awOk (vis (anS (bl a0_0)))))))
 (G (anum_q11 (mk (vis (anS (bl a0_0)))) false 0 0 (mk (List.drop (List.length (vis (anS (bl a0_0)))) (anS (bl a0_0)))) (anB (bl a0_0) a0_1 || !awOk (vis (anS (bl a0_0)))))))
 none))))
 none) := by kernel_rfl
theorem anum_p11 (G : Req → R) (d4 : ByteArray) (minus5 : Bool) (n6 : Int) (i7 : Int) (h0_0 : ByteArray) (h0_1 : Bool) : runB (cfg [k_aword]) G (anum_q11 d4 minus5 n6 i7 h0_0 h0_1) =
 (cond (ltI i7 (↑(ByteArray.size d4) : Int))
 (cond (leI 0 i7 && ltI i7 (↑(ByteArray.size d4) : Int))
 (cond (ltI (byI d4 i7) 48)
 (some [(.int IntKind.i64 (0)), (.str (h0_0)), (.bool (true))])
 (cond (leI 0 i7 && ltI i7 (↑(ByteArray.size d4) : Int))
 (cond (ltI 57 (byI d4 i7))
 (some [(.int IntKind.i64 (0)), (.str (h0_0)), (.bool (true))])
 (cond (leI 0 i7 && ltI i7 (↑(ByteArray.size d4) : Int))
 (G (anum_q11 d4 minus5 (wrapI IntKind.i64 (wrapI IntKind.i64 (n6 * 10) + wrapI IntKind.i64 (wrapI IntKind.u8 (byI d4 i7 - 48)))) (wrapI IntKind.i64 (i7 + 1)) h0_0 h0_1))
 none))
 none))
 none)
 (cond (minus5)
 (some [(.int IntKind.i64 (wrapI IntKind.i64 (0 - n6))), (.str (h0_0)), (.bool (h0_1))])
 (some [(.int IntKind.i64 (n6)), (.str (h0_0)), (.bool (h0_1))]))) := by kernel_rfl

end Go.Ab
namespace Go.Ab
open Go.Proofs

theorem hasP_l : ∀ (p s : List UInt8), (s.take p.length == p) = p.isPrefixOf s
  | [], s => by simp
  | c :: p, [] => by simp [List.isPrefixOf]
  | c :: p, x :: s => by
    have ih := hasP_l p s
    simp only [List.length_cons, List.take_succ_cons, List.isPrefixOf, ← ih]
    show ((x :: List.take p.length s) == c :: p) = _
    rw [Bool.eq_iff_iff, Bool.and_eq_true, beq_iff_eq, beq_iff_eq, beq_iff_eq, List.cons.injEq]
    exact ⟨fun h => ⟨h.1.symm, h.2⟩, fun h => ⟨h.1.symm, h.2⟩⟩
theorem isPre_len : ∀ (p s : List UInt8), p.isPrefixOf s = true → p.length ≤ s.length
  | [], _, _ => Nat.zero_le _
  | c :: p, [], h => by simp [List.isPrefixOf] at h
  | c :: p, x :: s, h => by
    simp only [List.isPrefixOf, Bool.and_eq_true] at h
    have := isPre_len p s h.2
    simp only [List.length_cons]; omega
theorem hasP_holds : Holds k_hasP := con_run (xs := []) hold0 fun aa hp r h => by
  split at h
  case h_2 => cases h
  rename_i s p
  obtain ⟨g, rfl⟩ := xo h
  obtain ⟨s, rfl⟩ := str_cases s
  obtain ⟨p, rfl⟩ := str_cases p
  refine Runs.by (hasP_e · _ _) ?_
  simp only [size_mk, bl_mk]
  by_cases hl : p.length ≤ s.length
  · simp (disch := omega) only [ev_le_t, cond_true, Bool.and_self, Int.toNat_natCast, ext_mk, bl_mk, List.drop_zero]
    rw [hasP_l]
    exact .ret
  · simp (disch := omega) only [ev_le_f, cond_false]
    have : p.isPrefixOf s = false := by
      rw [← Bool.not_eq_true]
      intro h
      exact hl (isPre_len p s h)
    rw [this]
    exact .ret
theorem min_pre (s : W) : ([45] : W).isPrefixOf s = isMin s := by
  cases s with
  | nil => rfl
  | cons c t =>
    show ((45 : UInt8) == c && true) = (c.toNat == 45)
    rw [Bool.and_true, Bool.eq_iff_iff, beq_iff_eq, beq_iff_eq]
    constructor
    · intro h; rw [← h]; rfl
    · intro h; exact (UInt8.toNat_inj.1 h).symm
theorem min_len {s : W} (h : isMin s = true) : 1 ≤ s.length := by
  cases s with
  | nil => cases h
  | cons c t => simp
theorem trim2_holds : Holds k_trim2 := con_run (xs := [k_hasP]) (hold1 hasP_holds hold0) fun aa hp r h => by
  split at h
  case h_2 => cases h
  rename_i s p
  obtain ⟨g, rfl⟩ := xo h
  rw [Bool.and_eq_true] at g
  have g1 := Nat.le_of_ble_eq_true g.1
  have g2 : bl p = [45] := by simpa using g.2
  obtain ⟨s, rfl⟩ := str_cases s
  obtain ⟨p, rfl⟩ := str_cases p
  have g2 : p = [45] := g2
  subst g2
  refine Runs.by (trim2_e · _ _) ?_
  have e : List.isPrefixOf (bl (mk [45])) (bl (mk s)) = isMin s := min_pre s
  rw [size_mk] at g1
  have g3 : Nat.ble ((mk s).size) 1000000000 = true := Nat.ble_eq_true_of_le (by rw [size_mk]; omega)
  have g4 : Nat.ble ((mk [45]).size) 1000000000 = true := rfl
  rw [e, g3, g4]
  show RunsF _ _ [.str (mk (digs s))]
  unfold digs
  cases hm : isMin s
  · exact .ret
  · have := min_len hm
    have h1 : ((([45] : W).length : Nat) : Int) = 1 := rfl
    simp (disch := omega) only [size_mk, h1, ev_le_t, Bool.and_self, cond_true]
    have h2 : (mk s).extract (Int.toNat 1) s.length = mk (s.drop 1) := ext_all s 1
    rw [h2]
    exact .ret
theorem trim_holds : Holds k_trim := con_run (xs := [k_trim2]) (hold1 trim2_holds hold0) fun aa hp r h => by
  simp only [k_trim2] at h
  split at h
  case h_2 => cases h
  rename_i s p
  obtain ⟨g, rfl⟩ := xo h
  refine Runs.by (trim_e · _ _) ?_
  rw [g]
  exact .ret

theorem isDg_eq (c : UInt8) : isDg c = decide (48 ≤ c.toNat ∧ c.toNat ≤ 57) := by
  unfold isDg
  rw [Bool.eq_iff_iff, Bool.and_eq_true, Nat.ble_eq, Nat.ble_eq, decide_eq_true_eq]
theorem isDg_t {c : UInt8} (h1 : 48 ≤ c.toNat) (h2 : c.toNat ≤ 57) : isDg c = true := by rw [isDg_eq]; simp [h1, h2]
theorem isDg_lo {c : UInt8} (h1 : c.toNat < 48) : isDg c = false := by rw [isDg_eq]; simp; omega
theorem isDg_hi {c : UInt8} (h1 : 57 < c.toNat) : isDg c = false := by rw [isDg_eq]; simp; omega
def stepN (n : Nat) (c : UInt8) : Nat := 10 * n + (c.toNat - 48)
theorem numV_eq (s : W) : numV s = s.foldl stepN 0 := rfl
theorem dig_w {c : UInt8} (h1 : 48 ≤ c.toNat) (h2 : c.toNat ≤ 57) : wrapI .i64 (wrapI .u8 ((c.toNat : Int) - 48)) = ((c.toNat - 48 : Nat) : Int) := by
  rw [w8 (by omega) (by omega), w64 (by omega) (by omega)]
  omega
theorem u8lt (c : UInt8) : c.toNat < 256 := c.toNat_lt
def numT (mn : Bool) (d : W) (n : Nat) (s : W) (b : Bool) : List L := cond (d.all isDg) (.int .i64 (cond mn (-(d.foldl stepN n : Nat)) (d.foldl stepN n : Nat)) :: stR s b) (.int .i64 0 :: stR s true)
theorem pow_lo {i : Nat} (h : i ≤ 9) : 10 ^ i ≤ 1000000000 := Nat.le_trans (Nat.pow_le_pow_right (by decide) h) (by decide)
theorem pnum_loop (w d s : W) (b : Bool) (hd : d.length ≤ 9) (hw : w.length ≤ 1000000) : ∀ m i n : Nat, i + m = d.length → n + 1 ≤ 30 * 10 ^ i →
    Runs (cfg [k_raw, k_trim]) (pnum_q8 (mk w) (mk d) (n : Nat) (d.length : Nat) (i : Nat) (mk s) b) (numT (ltI (d.length : Nat) (w.length : Nat)) (d.drop i) n s b)
  | 0, i, n, h, hn => by
    have := pow_lo (i := i) (by omega)
    refine Runs.by (pnum_p8 · _ _ _ _ _ _ _) ?_
    simp (disch := omega) only [ev_lt_f, cond_false, size_mk]
    rw [drop_end (by omega), w64 (n := 0 - (n : Int)) (by omega) (by omega), Int.zero_sub]
    unfold numT stR
    cases ltI (d.length : Nat) (w.length : Nat) <;> exact .ret
  | m + 1, i, n, h, hn => by
    have hp := pow_lo (i := i) (by omega)
    refine Runs.by (pnum_p8 · _ _ _ _ _ _ _) ?_
    rw [drop_at (0 : UInt8) (l := d) (i := i) (by omega)]
    unfold numT
    simp (disch := omega) only [ev_lt_t, ev_le_t, Bool.and_self, cond_true, size_mk, byI_mk, List.all_cons, List.foldl_cons]
    generalize hc : d.getD i 0 = c
    have hlt := u8lt c
    by_cases h1 : c.toNat < 48
    · rw [ev_lt_t (by omega), isDg_lo h1]
      exact .ret
    · rw [ev_lt_f (by omega)]
      by_cases h2 : 57 < c.toNat
      · rw [ev_lt_t (by omega), isDg_hi h2]
        exact .ret
      · have ih := pnum_loop w d s b hd hw m (i + 1) (stepN n c) (by omega) (by unfold stepN; rw [Nat.pow_succ]; omega)
        rw [ev_lt_f (by omega), isDg_t (by omega) (by omega), dig_w (by omega) (by omega)]
        rw [w64 (n := 10 * (n : Int)) (by omega) (by omega), w64 (n := 10 * (n : Int) + _) (by omega) (by omega), w64 (n := (i : Int) + 1) (by omega) (by omega)]
        have e : (10 * (n : Int) + ((c.toNat - 48 : Nat) : Int)) = (stepN n c : Nat) := by unfold stepN; omega
        have e2 : ((i : Int) + 1) = ((i + 1 : Nat) : Int) := by omega
        rw [e, e2]
        exact .go ih
theorem anum_loop (d s : W) (mn b : Bool) (hd : d.length ≤ 9) : ∀ m i n : Nat, i + m = d.length → n + 1 ≤ 30 * 10 ^ i →
    Runs (cfg [k_aword]) (anum_q11 (mk d) mn (n : Nat) (i : Nat) (mk s) b) (numT mn (d.drop i) n s b)
  | 0, i, n, h, hn => by
    have := pow_lo (i := i) (by omega)
    refine Runs.by (anum_p11 · _ _ _ _ _ _) ?_
    simp (disch := omega) only [ev_lt_f, cond_false, size_mk]
    rw [drop_end (by omega), w64 (n := 0 - (n : Int)) (by omega) (by omega), Int.zero_sub]
    unfold numT stR
    cases mn <;> exact .ret
  | m + 1, i, n, h, hn => by
    have hp := pow_lo (i := i) (by omega)
    refine Runs.by (anum_p11 · _ _ _ _ _ _) ?_
    rw [drop_at (0 : UInt8) (l := d) (i := i) (by omega)]
    unfold numT
    simp (disch := omega) only [ev_lt_t, ev_le_t, Bool.and_self, cond_true, size_mk, byI_mk, List.all_cons, List.foldl_cons]
    generalize hc : d.getD i 0 = c
    have hlt := u8lt c
    by_cases h1 : c.toNat < 48
    · rw [ev_lt_t (by omega), isDg_lo h1]
      exact .ret
    · rw [ev_lt_f (by omega)]
      by_cases h2 : 57 < c.toNat
      · rw [ev_lt_t (by omega), isDg_hi h2]
        exact .ret
      · have ih := anum_loop d s mn b hd m (i + 1) (stepN n c) (by omega) (by unfold stepN; rw [Nat.pow_succ]; omega)
        rw [ev_lt_f (by omega), isDg_t (by omega) (by omega), dig_w (by omega) (by omega)]
        rw [w64 (n := (n : Int) * 10) (by omega) (by omega), w64 (n := (n : Int) * 10 + _) (by omega) (by omega), w64 (n := (i : Int) + 1) (by omega) (by omega)]
        have e : ((n : Int) * 10 + ((c.toNat - 48 : Nat) : Int)) = (stepN n c : Nat) := by unfold stepN; omega
        have e2 : ((i : Int) + 1) = ((i + 1 : Nat) : Int) := by omega
        rw [e, e2]
        exact .go ih
theorem digs_len (w : W) : (digs w).length ≤ w.length ∧ ltI ((digs w).length : Nat) (w.length : Nat) = isMin w := by
  unfold digs
  cases h : isMin w
  · exact ⟨Nat.le_refl _, ev_lt_f (Int.le_refl _)⟩
  · have := min_len h
    show (w.drop 1).length ≤ _ ∧ ltI ((w.drop 1).length : Nat) _ = _
    rw [List.length_drop]
    exact ⟨by omega, ev_lt_t (by omega)⟩
theorem numT_ok {w s : W} {b : Bool} (h1 : 1 ≤ (digs w).length) (h2 : (digs w).length ≤ 9) (h3 : (((digs w).getD 0 0).toNat == 48 && !decide (w = [48])) = false) :
    numT (isMin w) (digs w) 0 s b = .int .i64 (numR w) :: stR s (b || !numOk w) := by
  have e : numOk w = (digs w).all isDg := by
    unfold numOk
    rw [Nat.ble_eq_true_of_le h1, Nat.ble_eq_true_of_le h2, h3]
    simp
  unfold numT numR numZ
  rw [e, ← numV_eq]
  cases (digs w).all isDg
  · rw [Bool.not_false, Bool.or_true]; rfl
  · rw [Bool.not_true, Bool.or_false]; rfl
theorem numR_bad {w : W} (h : numOk w = false) : numR w = 0 := by unfold numR; rw [h]; rfl
theorem pnum_holds : Holds k_pnum := conRd_of (ks := [k_raw, k_trim]) (hold1 raw_ok (hold1 trim_holds hold0)) fun s b g => by
  have g' := sm_of g
  have hw := rwW_len s b
  have hfst : nxO s b = false → rwW s b = [] := fun h => by unfold rwW; rw [h]; rfl
  refine Runs.by (pnum_e · _ _) ?_
  have eb : bl (mk s) = s := rfl
  simp only [eb]
  generalize hq : rwW s b = w at *
  have eb2 : bl (mk w) = w := rfl
  simp only [eb2, g, cond_true, size_mk, beq_nil, Nat.ble_eq_true_of_le (show w.length ≤ 1000000 by omega), Bool.and_self]
  obtain ⟨d1, d2⟩ := digs_len w
  have bad : numOk w = false → RunsF (cfg [k_raw, k_trim]) (fun _ => some [.int .i64 0, .str (mk (rwS s b)), .bool true]) (.int .i64 (numR w) :: stR (rwS s b) (!(nxO s b && numOk w))) := fun h => by
    rw [numR_bad h, h, Bool.and_false]
    exact .ret
  refine RunsF.cond (fun hc => bad ?_) (fun hc => ?_)
  · have : digs w = [] := List.isEmpty_iff.1 hc
    unfold numOk
    rw [this]; rfl
  · have h1 : 1 ≤ (digs w).length := by
      cases hd : digs w with
      | nil => rw [hd] at hc; cases hc
      | cons => simp
    refine RunsF.cond (fun hd => bad ?_) (fun hd => ?_)
    · have hd := ltI_t hd
      have : Nat.ble (digs w).length 9 = false := by rw [← Bool.not_eq_true, Nat.ble_eq]; omega
      unfold numOk
      rw [this, Bool.false_and, Bool.and_false]
    · have hd := ltI_f hd
      have hok : nxO s b = true := by
        cases h : nxO s b
        · have := hfst h
          rw [this] at h1
          exact absurd h1 (by decide)
        · rfl
      have e0 : byI (mk (digs w)) 0 = (((digs w).getD 0 0).toNat : Int) := byI_mk _ 0
      have e1 : ((((digs w).getD 0 0).toNat : Int) == 48) = (((digs w).getD 0 0).toNat == 48) := by
        rw [Bool.eq_iff_iff, beq_iff_eq, beq_iff_eq]; omega
      have e2 : (bl (mk w) == bl (mk [48])) = decide (w = [48]) := by
        rw [Bool.eq_iff_iff, beq_iff_eq, decide_eq_true_eq]
      have lp := fun (hz : (((digs w).getD 0 0).toNat == 48 && !decide (w = [48])) = false) => by
        have := pnum_loop w (digs w) (rwS s b) (!nxO s b) (by omega) (by omega) _ 0 0 (Nat.zero_add _) (by decide)
        rw [d2, List.drop_zero, numT_ok h1 (by omega) hz] at this
        exact this
      rw [hok] at lp ⊢
      simp only [Bool.not_true, Bool.false_or, Bool.true_and] at lp ⊢
      rw [e0, e1, ev_lt_t (by omega)]
      simp only [cond_true, show (w == bl (mk [48])) = decide (w = [48]) from e2]
      cases hz : ((digs w).getD 0 0).toNat == 48
      · exact .go (lp (by rw [hz]; rfl))
      · cases hy : decide (w = [48])
        · have := bad (by unfold numOk; rw [hz, hy]; simp)
          rw [hok, Bool.true_and] at this
          exact this
        · exact .go (lp (by rw [hz, hy]; rfl))
end Go.Ab
namespace Go.Ab
open Go.Proofs

theorem min_by (w : W) (h : 1 ≤ w.length) : (byI (mk w) 0 == 45) = isMin w := by
  cases w with
  | nil => cases h
  | cons c t =>
    have e0 : byI (mk (c :: t)) 0 = (c.toNat : Int) := byI_mk (c :: t) 0
    rw [e0]
    show _ = (c.toNat == 45)
    rw [Bool.eq_iff_iff, beq_iff_eq, beq_iff_eq]; omega
theorem by48 (d : W) : (byI (mk d) 0 == 48) = ((d.getD 0 0).toNat == 48) := by
  have e0 : byI (mk d) 0 = ((d.getD 0 0).toNat : Int) := byI_mk d 0
  rw [e0, Bool.eq_iff_iff, beq_iff_eq, beq_iff_eq]; omega
theorem is48 {w : W} (h : (w.getD 0 0).toNat = 48) (hl : w.length = 1) : w = [48] := by
  match w, hl with
  | [c], _ =>
    have : c = 48 := UInt8.toNat_inj.1 h
    rw [this]
theorem anum_holds : Holds k_anum := conRd_of (ks := [k_aword]) (hold1 aword_holds hold0) fun s b g => by
  have g' := sm_of g
  have hw : (vis (anS s)).length ≤ s.length := Nat.le_trans (vis_le _) (anS_len s)
  refine Runs.by (anum_e · _ _) ?_
  unfold anW anR anW
  have eb : bl (mk s) = s := rfl
  simp only [eb]
  generalize hR : (anS s).drop (vis (anS s)).length = R at *
  generalize hq : vis (anS s) = w at *
  simp only [g, cond_true, size_mk]
  obtain ⟨d1, d2⟩ := digs_len w
  have bad : numOk w = false → RunsF (cfg [k_aword]) (fun _ => some [.int .i64 0, .str (mk R), .bool true]) (.int .i64 (numR w) :: stR R (anB s b || (!awOk w || !numOk w))) := fun h => by
    rw [numR_bad h, h, Bool.not_false, Bool.or_true, Bool.or_true]
    exact .ret
  have lp : ∀ mn, mn = isMin w → 1 ≤ (digs w).length → (digs w).length ≤ 9 → (((digs w).getD 0 0).toNat == 48 && !decide (w = [48])) = false →
      Runs (cfg [k_aword]) (anum_q11 (mk (digs w)) mn 0 0 (mk R) (anB s b || !awOk w)) (.int .i64 (numR w) :: stR R (anB s b || (!awOk w || !numOk w))) := fun mn hmn h1 h2 h3 => by
    have := anum_loop (digs w) R mn (anB s b || !awOk w) h2 _ 0 0 (Nat.zero_add _) (by decide)
    rw [List.drop_zero, hmn, numT_ok h1 h2 h3, Bool.or_assoc] at this
    rw [hmn]
    exact this
  have nok1 : (digs w).length < 1 → numOk w = false := fun h => by
    have : Nat.ble 1 (digs w).length = false := by rw [← Bool.not_eq_true, Nat.ble_eq]; omega
    unfold numOk
    rw [this]; rfl
  have nok2 : 9 < (digs w).length → numOk w = false := fun h => by
    have : Nat.ble (digs w).length 9 = false := by rw [← Bool.not_eq_true, Nat.ble_eq]; omega
    unfold numOk
    rw [this, Bool.false_and, Bool.and_false]
  have nok3 : (((digs w).getD 0 0).toNat == 48) = true → w ≠ [48] → numOk w = false := fun h h' => by
    unfold numOk
    rw [h, decide_eq_false h']; simp
  by_cases h0 : 1 ≤ w.length
  · rw [ev_lt_t (show (0 : Int) < (w.length : Nat) by omega)]
    simp only [cond_true, min_by w h0]
    cases hm : isMin w
    · have ed : digs w = w := by unfold digs; rw [hm]; rfl
      rw [ed] at lp nok2 nok3
      simp only [cond_false, by48]
      rw [ev_lt_f (show (1 : Int) ≤ (w.length : Nat) by omega)]
      simp only [cond_false]
      refine RunsF.cond (fun hd => bad (nok2 (by have := ltI_t hd; omega))) (fun hd => ?_)
      have hd := ltI_f hd
      cases hz : (w.getD 0 0).toNat == 48
      · exact .go (lp _ hm.symm h0 (by omega) (by rw [hz]; rfl))
      · simp only [cond_true]
        refine RunsF.cond (fun he => ?_) (fun he => ?_)
        · have he := ltI_t he
          exact bad (nok3 hz fun e => by rw [e] at he; exact absurd he (by decide))
        · have he := ltI_f he
          have e48 := is48 (beq_iff_eq.1 hz) (by omega)
          exact .go (lp _ hm.symm h0 (by omega) (by rw [hz, decide_eq_true e48]; rfl))
    · have ed : digs w = w.drop 1 := by unfold digs; rw [hm]; rfl
      have ne48 : w ≠ [48] := fun e => by rw [e] at hm; cases hm
      have ex : (mk w).extract 1 w.length = mk (digs w) := by rw [ext_all, ed]
      simp (disch := omega) only [ev_le_t, cond_true, ex, size_mk, by48]
      refine RunsF.cond (fun hc => bad (nok1 (by have := ltI_t hc; omega))) (fun hc => ?_)
      have hc := ltI_f hc
      refine RunsF.cond (fun hd => bad (nok2 (by have := ltI_t hd; omega))) (fun hd => ?_)
      have hd := ltI_f hd
      rw [ev_lt_t (show (0 : Int) < ((digs w).length : Nat) by omega)]
      simp only [cond_true]
      cases hz : ((digs w).getD 0 0).toNat == 48
      · exact .go (lp _ hm.symm (by omega) (by omega) (by rw [hz]; rfl))
      · simp only [cond_true]
        refine RunsF.cond (fun he => bad (nok3 hz ne48)) (fun he => ?_)
        exact bad (nok3 hz ne48)
  · have e : w = [] := List.eq_nil_of_length_eq_zero (by omega)
    subst e
    exact bad rfl
end Go.Ab
namespace Go.Ab
open Go.Proofs

theorem c_aw_holds : Holds c_aw := aword_holds
theorem c_an_holds : Holds c_an := anum_holds
theorem c_at_holds : Holds c_at := atext_holds
theorem c_pw_holds : Holds c_pw := pword_ok
theorem c_pn_holds : Holds c_pn := pnum_holds
theorem c_pt_holds : Holds c_pt := ptext_holds
theorem anS_lt {s : W} (h : s ≠ []) : (anS s).length < s.length := by
  unfold anS
  have := List.length_pos_iff.2 h
  cases isBlk s
  · exact this
  · show (s.drop 1).length < _
    rw [List.length_drop]; omega
theorem anR_le' (s : W) : (anR s).length ≤ (anS s).length := by
  unfold anR
  rw [List.length_drop]; omega
theorem anR_lt {s : W} (h : s ≠ []) : (anR s).length < s.length := Nat.lt_of_le_of_lt (anR_le' s) (anS_lt h)
theorem anR_le (s : W) : (anR s).length ≤ s.length := Nat.le_trans (anR_le' s) (anS_len s)
theorem txt_le : ∀ (n : Nat) (s acc o t : W), s.length ≤ n → txt s acc = some (o, t) → t.length ≤ s.length
  | n, [], acc, o, t, _, h => by cases h
  | 0, c :: s, acc, o, t, hn, h => by simp at hn
  | n + 1, c :: s, acc, o, t, hn, h => by
    simp only [List.length_cons] at hn ⊢
    rw [txt_cons] at h
    split at h
    · cases h; omega
    · split at h
      · cases h
      · split at h
        · cases s with
          | nil => cases h
          | cons d s =>
            simp only [List.length_cons] at hn ⊢
            simp only at h
            cases he : esc d with
            | none => rw [he] at h; cases h
            | some e =>
              rw [he] at h
              have := txt_le n s _ o t (by omega) h
              omega
        · have := txt_le n s _ o t (by omega) h
          omega
theorem tR_le (s : W) : (tR s).length ≤ s.length := by
  unfold tR
  cases h : txq s with
  | none => exact Nat.le_refl _
  | some x =>
    unfold txq at h
    cases s with
    | nil => cases h
    | cons c t =>
      simp only at h
      split at h
      · have := txt_le t.length t [] x.1 x.2 (Nat.le_refl _) h
        simp only [List.length_cons]; omega
      · cases h
theorem atS_le (s : W) : (atS s).length ≤ s.length := by
  have h1 := anS_len s
  have h2 := tR_le (anS s)
  unfold atS
  cases atO s
  · exact h1
  · exact Nat.le_trans h2 h1
theorem mo_f {s : W} {b : Bool} (h : mo (s, b) = true) : b = false ∧ s ≠ [] := by
  unfold mo at h
  cases b
  · cases s
    · cases h
    · exact ⟨rfl, by simp⟩
  · cases h
theorem eWs_len (l : List Wr) : (eWs l).length = l.length := List.length_map ..
theorem eRs_len (l : List Ru) : (eRs l).length = l.length := List.length_map ..
theorem eIs_len (l : List Int) : (eIs l).length = l.length := List.length_map ..
theorem eSs_len (l : List W) : (eSs l).length = l.length := List.length_map ..
theorem eWs_snoc (l : List Wr) (x : Wr) : eWs l ++ [[.str (mk x.1), .str (mk x.2.1), .bool x.2.2]] = eWs (l ++ [x]) := by simp [eWs, eW1]
theorem eRs_snoc (l : List Ru) (x : Ru) : eRs l ++ [[.bool x.1, .str (mk x.2.1), .str (mk x.2.2.1), .str (mk x.2.2.2)]] = eRs (l ++ [x]) := by simp [eRs, eR1]
theorem eIs_snoc (l : List Int) (x : Int) : eIs l ++ [[.int .i64 x]] = eIs (l ++ [x]) := by simp [eIs, eI1]
theorem eSs_snoc (l : List W) (x : W) : eSs l ++ [[.str (mk x)]] = eSs (l ++ [x]) := by simp [eSs, eS1]
theorem bm (s : W) : bl (mk s) = s := rfl

def wrR (r : List Wr × Rs) : List L := .lst 51 (eWs r.1) :: stR r.2.1 r.2.2
noncomputable abbrev cw : Cfg := cfg [c_aw, c_at, k_amore]
theorem awrites_loop : ∀ (f : Nat) (s : W) (b : Bool) (a : List Wr), (s.length < f ∨ b = true) → s.length ≤ 1000000 → a.length + f ≤ 1000002 → Runs cw (awrites_q2 (mk s) b (eWs a)) (wrR (lqW f (s, b) a))
  | 0, s, b, a, h, _, _ => by
    have hb : b = true := h.resolve_left (by omega)
    subst hb
    exact Runs.by (awrites_p2 · _ _ _) .ret
  | f + 1, s, b, a, h, h1, h2 => by
    refine Runs.by (awrites_p2 · _ _ _) ?_
    simp only [bm, eWs_len]
    cases hm : mo (s, b) with
    | false =>
      have e : lqW (f + 1) (s, b) a = (a, (s, b)) := by rw [lqW, hm]; rfl
      have hm' : (!b && !List.isEmpty s) = false := hm
      rw [e, hm']
      exact .ret
    | true =>
      have hm' : (!b && !List.isEmpty s) = true := hm
      obtain ⟨hb, hne⟩ := mo_f hm
      rw [hm', sm_t h1]
      have l1 := anR_lt hne
      have l2 := anR_le (anR s)
      have l3 := atS_le (anR (anR s))
      have rm : roomN (a.length + 1) 40 = true := roomN_t (by omega) (by omega)
      have hf : s.length < f + 1 := h.resolve_right (by rw [hb]; decide)
      simp only [cond_true, sm_t (show (anR s).length ≤ 1000000 by omega), sm_t (show (anR (anR s)).length ≤ 1000000 by omega), rm]
      refine RunsF.cond (fun hp => ?_) (fun hp => ?_)
      · have e : lqW (f + 1) (s, b) a = lqW f (sAT (sAW (sAW (s, b)))) (a ++ [(vAW (sAW (s, b)), vAT (sAW (sAW (s, b))), false)]) := by
          rw [lqW, hm, show (vAW (s, b) == wPut) = true from hp]; rfl
        rw [e]
        exact .go (by
          have := awrites_loop f (atS (anR (anR s))) (awTB (anR (anR s)) (awB (anR s) (awB s b))) (a ++ [(anW (anR s), atV (anR (anR s)), false)]) (.inl (by omega)) (by omega) (by simp; omega)
          rw [← eWs_snoc] at this
          exact this)
      · refine RunsF.cond (fun hd => ?_) (fun hd => ?_)
        · have e : lqW (f + 1) (s, b) a = lqW f (sAW (sAW (s, b))) (a ++ [(vAW (sAW (s, b)), [], true)]) := by
            rw [lqW, hm, show (vAW (s, b) == wPut) = false from hp, show (vAW (s, b) == wDel) = true from hd]; rfl
          rw [e]
          exact .go (by
            have := awrites_loop f (anR (anR s)) (awB (anR s) (awB s b)) (a ++ [(anW (anR s), [], true)]) (.inl (by omega)) (by omega) (by simp; omega)
            rw [← eWs_snoc] at this
            exact this)
        · have e : lqW (f + 1) (s, b) a = lqW f ((sAW (s, b)).1, true) a := by
            rw [lqW, hm, show (vAW (s, b) == wPut) = false from hp, show (vAW (s, b) == wDel) = false from hd]; rfl
          rw [e]
          exact .go (awrites_loop f (anR s) true a (.inr rfl) (by omega) (by omega))
theorem writes_holds : Holds k_writes := conRd_of (ks := [c_aw, c_at, k_amore]) (hold1 c_aw_holds (hold1 c_at_holds (hold1 amore_holds hold0))) fun s b g => by
  have g := sm_of g
  exact Runs.by (awrites_e · _ _) (.go (awrites_loop (fu (s, b)) s b [] (.inl (Nat.lt_succ_self _)) g (by show 0 + (s.length + 1) ≤ _; omega)))
end Go.Ab
namespace Go.Ab
open Go.Proofs
theorem aevent_e (G : Req → R) (kind0 : Int) (a1_0 : ByteArray) (a1_1 : Bool) : runB (cfg [c_aw, c_an, c_at, k_writes, k_group, k_rules]) G (.enter 46 [(.lf (.int IntKind.i64 (kind0))), (.lf (.ptr 0 0))] [(.box [.str, .bool] [(.str (a1_0)), (.bool (a1_1))])]) =
 (cond (kind0 == 22)
 (cond (sm (List.length (bl a1_0)))
 (some [(.int IntKind.i64 (kind0)), (.str (mk (anW (bl a1_0)))), (.str (mk [])), (.str (mk [])), (.int IntKind.i64 (0)), (.int IntKind.i64 (0)), (.int IntKind.i64 (0)), (.int IntKind.i64 (0)), (.str (mk [])), (.str (mk [])), (.lst 3 []), (.lst 9 []), (.lst 65 []), (.lst 51 []), (.str (mk (anR (bl a1_0)))), (.bool (awB (bl a1_0) a1_1))])
 none)
 (cond (kind0 == 5)
 (cond (sm (List.length (bl a1_0)))
 (some [(.int IntKind.i64 (kind0)), (.str (mk (anW (bl a1_0)))), (.str (mk [])), (.str (mk [])), (.int IntKind.i64 (0)), (.int IntKind.i64 (0)), (.int IntKind.i64 (0)), (.int IntKind.i64 (0)), (.str (mk [])), (.str (mk [])), (.lst 3 []), (.lst 9 []), (.lst 65 []), (.lst 51 []), (.str (mk (anR (bl a1_0)))), (.bool (awB (bl a1_0) a1_1))])
 none)
 (cond (kind0 == 20)
 (cond (sm (List.length (bl a1_0)))
 (some [(.int IntKind.i64 (kind0)), (.str (mk (anW (bl a1_0)))), (.str (mk [])), (.str (mk [])), (.int IntKind.i64 (0)), (.int IntKind.i64 (0)), (.int IntKind.i64 (0)), (.int IntKind.i64 (0)), (.str (mk [])), (.str (mk [])), (.lst 3 []), (.lst 9 []), (.lst 65 []), (.lst 51 []), (.str (mk (anR (bl a1_0)))), (.bool (awB (bl a1_0) a1_1))])
 none)
 (cond (kind0 == 1)
 (cond (sm (List.length (bl a1_0)))
 (cond (sm (List.length (bl (mk (anR (bl a1_0))))))
 (cond (sm (List.length (bl (mk (anR (bl (mk (anR (bl a1_0)))))))))
 (cond (sm (List.length (bl (mk (anR (bl (mk (anR (bl (mk (anR (bl a1_0))))))))))))
 (some [(.int IntKind.i64 (kind0)), (.str (mk (anW (bl a1_0)))), (.str (mk (anW (bl (mk (anR (bl a1_0))))))), (.str (mk [])), (.int IntKind.i64 (awN (bl (mk (anR (bl (mk (anR (bl a1_0))))))))), (.int IntKind.i64 (0)), (.int IntKind.i64 (0)), (.int IntKind.i64 (0)), (.str (mk [])), (.str (mk [])), (.lst 3 []), (.lst 9 []), (.lst 65 []), (.lst 51 (eWs (Prod.fst (lqW (fu (bl (mk (anR (bl (mk (anR (bl (mk (anR (bl a1_0))))))))), awNB (bl (mk (anR (bl (mk (anR (bl a1_0))))))) (awB (bl (mk (anR (bl a1_0)))) (awB (bl a1_0) a1_1)))) (bl (mk (anR (bl (mk (anR (bl (mk (anR (bl a1_0))))))))), awNB (bl (mk (anR (bl (mk (anR (bl a1_0))))))) (awB (bl (mk (anR (bl a1_0)))) (awB (bl a1_0) a1_1))) [])))), (.str (mk (Prod.fst (Prod.snd (lqW (fu (bl (mk (anR (bl (mk (anR (bl (mk (anR (bl a1_0))))))))), awNB (bl (mk (anR (bl (mk (anR (bl a1_0))))))) (awB (bl (mk (anR (bl a1_0)))) (awB (bl a1_0) a1_1)))) (bl (mk (anR (bl (mk (anR (bl (mk (anR (bl a1_0))))))))), awNB (bl (mk (anR (bl (mk (anR (bl a1_0))))))) (awB (bl (mk (anR (bl a1_0)))) (awB (bl a1_0) a1_1))) []))))), (.bool (Prod.snd (Prod.snd (lqW (fu (bl (mk (anR (bl (mk (anR (bl (mk (anR (bl a1_0))))))))), awNB (bl (mk (anR (bl (mk (anR (bl a1_0))))))) (awB (bl (mk (anR (bl a1_0)))) (awB (bl a1_0) a1_1)))) (bl (mk (anR (bl (mk (anR (bl (mk (anR (bl a1_0))))))))), awNB (bl (mk (anR (bl (mk (anR (bl a1_0))))))) (awB (bl (mk (anR (bl a1_0)))) (awB (bl a1_0) a1_1))) []))))])
 none)
 none)
 none)
 none)
 (cond (kind0 == 2)
 (cond (sm (List.length (bl a1_0)))
 (cond (sm (List.length (bl (mk (anR (bl a1_0))))))
 (cond (sm (List.length (bl (mk (anR (bl (mk (anR (bl a1_0)))))))))
 (cond (kind0 == 4)
 (cond (sm (List.length (bl (mk (anR (bl (mk (anR (bl (mk (anR (bl a1_0))))))))))))
 (some [(.int IntKind.i64 (kind0)), (.str (mk (anW (bl a1_0)))), (.str (mk (anW (bl (mk (anR (bl a1_0))))))), (.str (mk (anW (bl (mk (anR (bl (mk (anR (bl a1_0)))))))))), (.int IntKind.i64 (awN (bl (mk (anR (bl (mk (anR (bl (mk (anR (bl a1_0)))))))))))), (.int IntKind.i64 (0)), (.int IntKind.i64 (0)), (.int IntKind.i64 (0)), (.str (mk [])), (.str (mk [])), (.lst 3 []), (.lst 9 []), (.lst 65 []), (.lst 51 []), (.str (mk (anR (bl (mk (anR (bl (mk (anR (bl (mk (anR (bl a1_0))))))))))))), (.bool (awNB (bl (mk (anR (bl (mk (anR (bl (mk (anR (bl a1_0)))))))))) (awB (bl (mk (anR (bl (mk (anR (bl a1_0))))))) (awB (bl (mk (anR (bl a1_0)))) (awB (bl a1_0) a1_1)))))])
 none)
 (some [(.int IntKind.i64 (kind0)), (.str (mk (anW (bl a1_0)))), (.str (mk (anW (bl (mk (anR (bl a1_0))))))), (.str (mk (anW (bl (mk (anR (bl (mk (anR (bl a1_0)))))))))), (.int IntKind.i64 (0)), (.int IntKind.i64 (0)), (.int IntKind.i64 (0)), (.int IntKind.i64 (0)), (.str (mk [])), (.str (mk [])), (.lst 3 []), (.lst 9 []), (.lst 65 []), (.lst 51 []), (.str (mk (anR (bl (mk (anR (bl (mk (anR (bl a1_0)))))))))), (.bool (awB (bl (mk (anR (bl (mk (anR (bl a1_0))))))) (awB (bl (mk (anR (bl a1_0)))) (awB (bl a1_0) a1_1))))]))
 none)
 none)
 none)
 (cond (kind0 == 4)
 (cond (sm (List.length (bl a1_0)))
 (cond (sm (List.length (bl (mk (anR (bl a1_0))))))
 (cond (sm (List.length (bl (mk (anR (bl (mk (anR (bl a1_0)))))))))
 (cond (kind0 == 4)
 (cond (sm (List.length (bl (mk (anR (bl (mk (anR (bl (mk (anR (bl a1_0))))))))))))
 (some [(.int IntKind.i64 (kind0)), (.str (mk (anW (bl a1_0)))), (.str (mk (anW (bl (mk (anR (bl a1_0))))))), (.str (mk (anW (bl (mk (anR (bl (mk (anR (bl a1_0)))))))))), (.int IntKind.i64 (awN (bl (mk (anR (bl (mk (anR (bl (mk (anR (bl a1_0)))))))))))), (.int IntKind.i64 (0)), (.int IntKind.i64 (0)), (.int IntKind.i64 (0)), (.str (mk [])), (.str (mk [])), (.lst 3 []), (.lst 9 []), (.lst 65 []), (.lst 51 []), (.str (mk (anR (bl (mk (anR (bl (mk (anR (bl (mk (anR (bl a1_0))))))))))))), (.bool (awNB (bl (mk (anR (bl (mk (anR (bl (mk (anR (bl a1_0)))))))))) (awB (bl (mk (anR (bl (mk (anR (bl a1_0))))))) (awB (bl (mk (anR (bl a1_0)))) (awB (bl a1_0) a1_1)))))])
 none)
 (some [(.int IntKind.i64 (kind0)), (.str (mk (anW (bl a1_0)))), (.str (mk (anW (bl (mk (anR (bl a1_0))))))), (.str (mk (anW (bl (mk (anR (bl (mk (anR (bl a1_0)))))))))), (.int IntKind.i64 (0)), (.int IntKind.i64 (0)), (.int IntKind.i64 (0)), (.int IntKind.i64 (0)), (.str (mk [])), (.str (mk [])), (.lst 3 []), (.lst 9 []), (.lst 65 []), (.lst 51 []), (.str (mk (anR (bl (mk (anR (bl (mk (anR (bl a1_0)))))))))), (.bool (awB (bl (mk (anR (bl (mk (anR (bl a1_0))))))) (awB (bl (mk (anR (bl a1_0)))) (awB (bl a1_0) a1_1))))]))
 none)
 none)
 none)
 (cond (kind0 == 3)
 (cond (sm (List.length (bl a1_0)))
 (cond (sm (List.length (bl (mk (anR (bl a1_0))))))
 (some [(.int IntKind.i64 (kind0)), (.str (mk (anW (bl a1_0)))), (.str (mk (anW (bl (mk (anR (bl a1_0))))))), (.str (mk [])), (.int IntKind.i64 (0)), (.int IntKind.i64 (0)), (.int IntKind.i64 (0)), (.int IntKind.i64 (0)), (.str (mk [])), (.str (mk [])), (.lst 3 []), (.lst 9 []), (.lst 65 []), (.lst 51 []), (.str (mk (anR (bl (mk (anR (bl a1_0))))))), (.bool (awB (bl (mk (anR (bl a1_0)))) (awB (bl a1_0) a1_1)))])
 none)
 none)
 (cond (kind0 == 7)
 (cond (sm (List.length (bl a1_0)))
 (some [(.int IntKind.i64 (kind0)), (.str (mk [])), (.str (mk [])), (.str (mk [])), (.int IntKind.i64 (0)), (.int IntKind.i64 (0)), (.int IntKind.i64 (0)), (.int IntKind.i64 (0)), (.str (mk [])), (.str (mk (vAW (bl a1_0, a1_1)))), (.lst 3 (eIs (Prod.fst (Prod.fst (rG (bl a1_0, a1_1)))))), (.lst 9 (eSs (Prod.snd (Prod.fst (rG (bl a1_0, a1_1)))))), (.lst 65 []), (.lst 51 []), (.str (mk (Prod.fst (Prod.snd (rG (bl a1_0, a1_1)))))), (.bool (Prod.snd (Prod.snd (rG (bl a1_0, a1_1)))))])
 none)
 (cond (kind0 == 8)
 (cond (sm (List.length (bl a1_0)))
 (some [(.int IntKind.i64 (kind0)), (.str (mk [])), (.str (mk [])), (.str (mk [])), (.int IntKind.i64 (0)), (.int IntKind.i64 (0)), (.int IntKind.i64 (0)), (.int IntKind.i64 (0)), (.str (mk [])), (.str (mk [])), (.lst 3 []), (.lst 9 []), (.lst 65 (eRs (Prod.fst (lqR (fu (bl a1_0, a1_1)) (bl a1_0, a1_1) [])))), (.lst 51 []), (.str (mk (Prod.fst (Prod.snd (lqR (fu (bl a1_0, a1_1)) (bl a1_0, a1_1) []))))), (.bool (Prod.snd (Prod.snd (lqR (fu (bl a1_0, a1_1)) (bl a1_0, a1_1) []))))])
 none)
 (cond (kind0 == 9)
 (cond (sm (List.length (bl a1_0)))
 (cond (sm (List.length (bl (mk (anR (bl a1_0))))))
 (cond (kind0 == 9)
 (cond (sm (List.length (bl (mk (atS (bl (mk (anR (bl a1_0)))))))))
 (cond (sm (List.length (bl (mk (anR (bl (mk (atS (bl (mk (anR (bl a1_0))))))))))))
 (cond (sm (List.length (bl (mk (anR (bl (mk (anR (bl (mk (atS (bl (mk (anR (bl a1_0)))))))))))))))
 (some [(.int IntKind.i64 (kind0)), (.str (mk [])), (.str (mk [])), (.str (mk [])), (.int IntKind.i64 (awN (bl a1_0))), (.int IntKind.i64 (awN (bl (mk (atS (bl (mk (anR (bl a1_0))))))))), (.int IntKind.i64 (awN (bl (mk (anR (bl (mk (atS (bl (mk (anR (bl a1_0)))))))))))), (.int IntKind.i64 (awN (bl (mk (anR (bl (mk (anR (bl (mk (atS (bl (mk (anR (bl a1_0))))))))))))))), (.str (mk (atV (bl (mk (anR (bl a1_0))))))), (.str (mk [])), (.lst 3 []), (.lst 9 []), (.lst 65 []), (.lst 51 []), (.str (mk (anR (bl (mk (anR (bl (mk (anR (bl (mk (atS (bl (mk (anR (bl a1_0)))))))))))))))), (.bool (awNB (bl (mk (anR (bl (mk (anR (bl (mk (atS (bl (mk (anR (bl a1_0))))))))))))) (awNB (bl (mk (anR (bl (mk (atS (bl (mk (anR (bl a1_0)))))))))) (awNB (bl (mk (atS (bl (mk (anR (bl a1_0))))))) (awTB (bl (mk (anR (bl a1_0)))) (awNB (bl a1_0) a1_1))))))])
 none)
 none)
 none)
 (some [(.int IntKind.i64 (kind0)), (.str (mk [])), (.str (mk [])), (.str (mk [])), (.int IntKind.i64 (awN (bl a1_0))), (.int IntKind.i64 (0)), (.int IntKind.i64 (0)), (.int IntKind.i64 (0)), (.str (mk (atV (bl (mk (anR (bl a1_0))))))), (.str (mk [])), (.lst 3 []), (.lst 9 []), (.lst 65 []), (.lst 51 []), (.str (mk (atS (bl (mk (anR (bl a1_0))))))), (.bool (awTB (bl (mk (anR (bl a1_0)))) (awNB (bl a1_0) a1_1)))]))
 none)
 none)
 (cond (kind0 == 10)
 (cond (sm (List.length (bl a1_0)))
 (cond (sm (List.length (bl (mk (anR (bl a1_0))))))
 (cond (kind0 == 9)
 (cond (sm (List.length (bl (mk (atS (bl (mk (anR (bl a1_0)))))))))
 (cond (sm (List.length (bl (mk (anR (bl (mk (atS (bl (mk (anR (bl a1_0))))))))))))
 (cond (sm (List.length (bl (mk (anR (bl (mk (anR (bl (mk (atS (bl (mk (anR (bl a1_0)))))))))))))))
 (some [(.int IntKind.i64 (kind0)), (.str (mk [])), (.str (mk [])), (.str (mk [])), (.int IntKind.i64 (awN (bl a1_0))), (.int IntKind.i64 (awN (bl (mk (atS (bl (mk (anR (bl a1_0))))))))), (.int IntKind.i64 (awN (bl (mk (anR (bl (mk (atS (bl (mk (anR (bl a1_0)))))))))))), (.int IntKind.i64 (awN (bl (mk (anR (bl (mk (anR (bl (mk (atS (bl (mk (anR (bl a1_0))))))))))))))), (.str (mk (atV (bl (mk (anR (bl a1_0))))))), (.str (mk [])), (.lst 3 []), (.lst 9 []), (.lst 65 []), (.lst 51 []), (.str (mk (anR (bl (mk (anR (bl (mk (anR (bl (mk (atS (bl (mk (anR (bl a1_0)))))))))))))))), (.bool (awNB (bl (mk (anR (bl (mk (anR (bl (mk (atS (bl (mk (anR (bl a1_0))))))))))))) (awNB (bl (mk (anR (bl (mk (atS (bl (mk (anR (bl a1_0)))))))))) (awNB (bl (mk (atS (bl (mk (anR (bl a1_0))))))) (awTB (bl (mk (anR (bl a1_0)))) (awNB (bl a1_0) a1_1))))))])
 none)
 none)
 none)
 (some [(.int IntKind.i64 (kind0)), (.str (mk [])), (.str (mk [])), (.str (mk [])), (.int IntKind.i64 (awN (bl a1_0))), (.int IntKind.i64 (0)), (.int IntKind.i64 (0)), (.int IntKind.i64 (0)), (.str (mk (atV (bl (mk (anR (bl a1_0))))))), (.str (mk [])), (.lst 3 []), (.lst 9 []), (.lst 65 []), (.lst 51 []), (.str (mk (atS (bl (mk (anR (bl a1_0))))))), (.bool (awTB (bl (mk (anR (bl a1_0)))) (awNB (bl a1_0) a1_1)))]))
 none)
 none)
 (cond (kind0 == 13)
 (cond (sm (List.length (bl a1_0)))
 (cond (sm (List.length (bl (mk (anR (bl a1_0))))))
 (cond (sm (List.length (bl (mk (anR (bl (mk (anR (bl a1_0)))))))))
 (some [(.int IntKind.i64 (kind0)), (.str (mk [])), (.str (mk [])), (.str (mk [])), (.int IntKind.i64 (awN (bl a1_0))), (.int IntKind.i64 (awN (bl (mk (anR (bl a1_0)))))), (.int IntKind.i64 (0)), (.int IntKind.i64 (awN (bl (mk (anR (bl (mk (anR (bl a1_0))))))))), (.str (mk [])), (.str (mk [])), (.lst 3 []), (.lst 9 []), (.lst 65 []), (.lst 51 []), (.str (mk (anR (bl (mk (anR (bl (mk (anR (bl a1_0)))))))))), (.bool (awNB (bl (mk (anR (bl (mk (anR (bl a1_0))))))) (awNB (bl (mk (anR (bl a1_0)))) (awNB (bl a1_0) a1_1))))])
 none)
 none)
 none)
 (cond (kind0 == 6)
 (cond (sm (List.length (bl a1_0)))
 (some [(.int IntKind.i64 (kind0)), (.str (mk [])), (.str (mk [])), (.str (mk [])), (.int IntKind.i64 (0)), (.int IntKind.i64 (awN (bl a1_0))), (.int IntKind.i64 (0)), (.int IntKind.i64 (0)), (.str (mk [])), (.str (mk [])), (.lst 3 []), (.lst 9 []), (.lst 65 []), (.lst 51 []), (.str (mk (anR (bl a1_0)))), (.bool (awNB (bl a1_0) a1_1))])
 none)
 (cond (kind0 == 11)
 (cond (sm (List.length (bl a1_0)))
 (some [(.int IntKind.i64 (kind0)), (.str (mk [])), (.str (mk [])), (.str (mk [])), (.int IntKind.i64 (0)), (.int IntKind.i64 (awN (bl a1_0))), (.int IntKind.i64 (0)), (.int IntKind.i64 (0)), (.str (mk [])), (.str (mk [])), (.lst 3 []), (.lst 9 []), (.lst 65 []), (.lst 51 []), (.str (mk (anR (bl a1_0)))), (.bool (awNB (bl a1_0) a1_1))])
 none)
 (cond (kind0 == 14)
 (cond (sm (List.length (bl a1_0)))
 (some [(.int IntKind.i64 (kind0)), (.str (mk [])), (.str (mk [])), (.str (mk [])), (.int IntKind.i64 (0)), (.int IntKind.i64 (awN (bl a1_0))), (.int IntKind.i64 (0)), (.int IntKind.i64 (0)), (.str (mk [])), (.str (mk [])), (.lst 3 []), (.lst 9 []), (.lst 65 []), (.lst 51 []), (.str (mk (anR (bl a1_0)))), (.bool (awNB (bl a1_0) a1_1))])
 none)
 (cond (kind0 == 15)
 (cond (sm (List.length (bl a1_0)))
 (cond (sm (List.length (bl (mk (anR (bl a1_0))))))
 (some [(.int IntKind.i64 (kind0)), (.str (mk [])), (.str (mk [])), (.str (mk [])), (.int IntKind.i64 (0)), (.int IntKind.i64 (awN (bl a1_0))), (.int IntKind.i64 (awN (bl (mk (anR (bl a1_0)))))), (.int IntKind.i64 (0)), (.str (mk [])), (.str (mk [])), (.lst 3 []), (.lst 9 []), (.lst 65 []), (.lst 51 []), (.str (mk (anR (bl (mk (anR (bl a1_0))))))), (.bool (awNB (bl (mk (anR (bl a1_0)))) (awNB (bl a1_0) a1_1)))])
 none)
 none)
 (cond (kind0 == 17)
 (cond (sm (List.length (bl a1_0)))
 (cond (sm (List.length (bl (mk (anR (bl a1_0))))))
 (some [(.int IntKind.i64 (kind0)), (.str (mk [])), (.str (mk [])), (.str (mk [])), (.int IntKind.i64 (0)), (.int IntKind.i64 (awN (bl a1_0))), (.int IntKind.i64 (awN (bl (mk (anR (bl a1_0)))))), (.int IntKind.i64 (0)), (.str (mk [])), (.str (mk [])), (.lst 3 []), (.lst 9 []), (.lst 65 []), (.lst 51 []), (.str (mk (anR (bl (mk (anR (bl a1_0))))))), (.bool (awNB (bl (mk (anR (bl a1_0)))) (awNB (bl a1_0) a1_1)))])
 none)
 none)
 (cond (kind0 == 18)
 (cond (sm (List.length (bl a1_0)))
 (cond (sm (List.length (bl (mk (anR (bl a1_0))))))
 (some [(.int IntKind.i64 (kind0)), (.str (mk [])), (.str (mk [])), (.str (mk [])), (.int IntKind.i64 (0)), (.int IntKind.i64 (awN (bl a1_0))), (.int IntKind.i64 (awN (bl (mk (anR (bl a1_0)))))), (.int IntKind.i64 (0)), (.str (mk [])), (.str (mk [])), (.lst 3 []), (.lst 9 []), (.lst 65 []), (.lst 51 []), (.str (mk (anR (bl (mk (anR (bl a1_0))))))), (.bool (awNB (bl (mk (anR (bl a1_0)))) (awNB (bl a1_0) a1_1)))])
 none)
 none)
 (cond (kind0 == 16)
 (cond (sm (List.length (bl a1_0)))
 (cond (sm (List.length (bl (mk (anR (bl a1_0))))))
 (cond (sm (List.length (bl (mk (anR (bl (mk (anR (bl a1_0)))))))))
 (some [(.int IntKind.i64 (kind0)), (.str (mk [])), (.str (mk [])), (.str (mk [])), (.int IntKind.i64 (0)), (.int IntKind.i64 (awN (bl a1_0))), (.int IntKind.i64 (awN (bl (mk (anR (bl a1_0)))))), (.int IntKind.i64 (awN (bl (mk (anR (bl (mk (anR (bl a1_0))))))))), (.str (mk [])), (.str (mk [])), (.lst 3 []), (.lst 9 []), (.lst 65 []), (.lst 51 []), (.str (mk (anR (bl (mk (anR (bl (mk (anR (bl a1_0)))))))))), (.bool (awNB (bl (mk (anR (bl (mk (anR (bl a1_0))))))) (awNB (bl (mk (anR (bl a1_0)))) (awNB (bl a1_0) a1_1))))])
 none)
 none)
 none)
 (cond (kind0 == 19)
 (cond (sm (List.length (bl a1_0)))
 (cond (sm (List.length (bl (mk (anR (bl a1_0))))))
 (cond (sm (List.length (bl (mk (anR (bl (mk (anR (bl a1_0)))))))))
 (some [(.int IntKind.i64 (kind0)), (.str (mk [])), (.str (mk [])), (.str (mk [])), (.int IntKind.i64 (0)), (.int IntKind.i64 (awN (bl a1_0))), (.int IntKind.i64 (awN (bl (mk (anR (bl a1_0)))))), (.int IntKind.i64 (awN (bl (mk (anR (bl (mk (anR (bl a1_0))))))))), (.str (mk [])), (.str (mk [])), (.lst 3 []), (.lst 9 []), (.lst 65 []), (.lst 51 []), (.str (mk (anR (bl (mk (anR (bl (mk (anR (bl a1_0)))))))))), (.bool (awNB (bl (mk (anR (bl (mk (anR (bl a1_0))))))) (awNB (bl (mk (anR (bl a1_0)))) (awNB (bl a1_0) a1_1))))])
 none)
 none)
 none)
 (cond (kind0 == 21)
 (cond (sm (List.length (bl a1_0)))
 (cond (sm (List.length (bl (mk (anR (bl a1_0))))))
 (cond (sm (List.length (bl (mk (anR (bl (mk (anR (bl a1_0)))))))))
 (cond (sm (List.length (bl (mk (anR (bl (mk (anR (bl (mk (anR (bl a1_0))))))))))))
 (cond (sm (List.length (bl (mk (atS (bl (mk (anR (bl (mk (anR (bl (mk (anR (bl a1_0)))))))))))))))
 (some [(.int IntKind.i64 (kind0)), (.str (mk (anW (bl (mk (anR (bl a1_0))))))), (.str (mk (anW (bl (mk (anR (bl (mk (anR (bl a1_0)))))))))), (.str (mk (atV (bl (mk (atS (bl (mk (anR (bl (mk (anR (bl (mk (anR (bl a1_0)))))))))))))))), (.int IntKind.i64 (awN (bl a1_0))), (.int IntKind.i64 (0)), (.int IntKind.i64 (0)), (.int IntKind.i64 (0)), (.str (mk (atV (bl (mk (anR (bl (mk (anR (bl (mk (anR (bl a1_0))))))))))))), (.str (mk [])), (.lst 3 []), (.lst 9 []), (.lst 65 []), (.lst 51 []), (.str (mk (atS (bl (mk (atS (bl (mk (anR (bl (mk (anR (bl (mk (anR (bl a1_0)))))))))))))))), (.bool (awTB (bl (mk (atS (bl (mk (anR (bl (mk (anR (bl (mk (anR (bl a1_0))))))))))))) (awTB (bl (mk (anR (bl (mk (anR (bl (mk (anR (bl a1_0)))))))))) (awB (bl (mk (anR (bl (mk (anR (bl a1_0))))))) (awB (bl (mk (anR (bl a1_0)))) (awNB (bl a1_0) a1_1))))))])
 none)
 none)
 none)
 none)
 none)
 (some [(.int IntKind.i64 (kind0)), (.str (mk [])), (.str (mk [])), (.str (mk [])), (.int IntKind.i64 (0)), (.int IntKind.i64 (0)), (.int IntKind.i64 (0)), (.int IntKind.i64 (0)), (.str (mk [])), (.str (mk [])), (.lst 3 []), (.lst 9 []), (.lst 65 []), (.lst 51 []), (.str (a1_0)), (.bool (a1_1))])))))))))))))))))))))) := by kernel_rfl

end Go.Ab
namespace Go.Ab
open Go.Proofs

noncomputable abbrev cg : Cfg := cfg [c_aw, c_an, k_amore]
def grR (nm : W) (r : (List Int × List W) × Rs) : List L := .str (mk nm) :: .lst 3 (eIs r.1.1) :: .lst 9 (eSs r.1.2) :: stR r.2.1 r.2.2
theorem isE_len {α : Type} (l : List α) : l.isEmpty = !ltI 0 (l.length : Nat) := by
  cases l with
  | nil => rfl
  | cons a l => rw [ev_lt_t (by simp only [List.length_cons]; omega)]; rfl
theorem agroup_loop (nm : W) (h1_0 : ByteArray) (h3 h4 : List (List L)) : ∀ (f : Nat) (s : W) (b : Bool) (u : List Int) (g : List W), (s.length < f ∨ b = true) → s.length ≤ 1000000 → u.length + f ≤ 1000002 → g.length + f ≤ 1000002 →
    Runs cg (agroup_q2 (mk s) b h1_0 (mk nm) h3 h4 (eIs u) (eSs g)) (grR nm (lqG f (s, b) u g))
  | 0, s, b, u, g, h, _, _, _ => by
    have hb : b = true := h.resolve_left (by omega)
    subst hb
    exact Runs.by (agroup_p2 · _ _ _ _ _ _ _ _) .ret
  | f + 1, s, b, u, g, h, h1, h2, h2' => by
    refine Runs.by (agroup_p2 · _ _ _ _ _ _ _ _) ?_
    simp only [bm, eIs_len, eSs_len, dupN_eq]
    cases hm : mo (s, b) with
    | false =>
      have e : lqG (f + 1) (s, b) u g = ((u, g), (s, b)) := by rw [lqG, hm]; rfl
      have hm' : (!b && !List.isEmpty s) = false := hm
      rw [e, hm']
      exact .ret
    | true =>
      have hm' : (!b && !List.isEmpty s) = true := hm
      obtain ⟨hb, hne⟩ := mo_f hm
      rw [hm', sm_t h1]
      have l1 := anR_lt hne
      have l2 := anR_le (anR s)
      have rm : roomN (u.length + 1) 8 = true := roomN_t (by omega) (by omega)
      have rm2 : roomN (g.length + 1) 16 = true := roomN_t (by omega) (by omega)
      have hf : s.length < f + 1 := h.resolve_right (by rw [hb]; decide)
      simp only [cond_true, sm_t (show (anR s).length ≤ 1000000 by omega), rm, rm2]
      refine RunsF.cond (fun hp => ?_) (fun hp => ?_)
      · refine RunsF.cond (fun hg => ?_) (fun hg => ?_)
        · have e : lqG (f + 1) (s, b) u g = lqG f (sAN ((sAW (s, b)).1, true)) (u ++ [vAN ((sAW (s, b)).1, true)]) g := by
            rw [lqG, hm, show (vAW (s, b) == wUser) = true from hp, isE_len, hg]; rfl
          rw [e]
          exact .go (by
            have := agroup_loop nm h1_0 h3 h4 f (anR (anR s)) (awNB (anR s) true) (u ++ [awN (anR s)]) g (.inl (by omega)) (by omega) (by simp; omega) (by omega)
            rw [← eIs_snoc] at this
            exact this)
        · have e : lqG (f + 1) (s, b) u g = lqG f (sAN (sAW (s, b))) (u ++ [vAN (sAW (s, b))]) g := by
            rw [lqG, hm, show (vAW (s, b) == wUser) = true from hp, isE_len, hg]; rfl
          rw [e]
          exact .go (by
            have := agroup_loop nm h1_0 h3 h4 f (anR (anR s)) (awNB (anR s) (awB s b)) (u ++ [awN (anR s)]) g (.inl (by omega)) (by omega) (by simp; omega) (by omega)
            rw [← eIs_snoc] at this
            exact this)
      · refine RunsF.cond (fun hd => ?_) (fun hd => ?_)
        · have e : lqG (f + 1) (s, b) u g = lqG f (sAW (sAW (s, b))) u (g ++ [vAW (sAW (s, b))]) := by
            rw [lqG, hm, show (vAW (s, b) == wUser) = false from hp, show (vAW (s, b) == wGroup) = true from hd]; rfl
          rw [e]
          exact .go (by
            have := agroup_loop nm h1_0 h3 h4 f (anR (anR s)) (awB (anR s) (awB s b)) u (g ++ [anW (anR s)]) (.inl (by omega)) (by omega) (by omega) (by simp; omega)
            rw [← eSs_snoc] at this
            exact this)
        · have e : lqG (f + 1) (s, b) u g = lqG f ((sAW (s, b)).1, true) u g := by
            rw [lqG, hm, show (vAW (s, b) == wUser) = false from hp, show (vAW (s, b) == wGroup) = false from hd]; rfl
          rw [e]
          exact .go (agroup_loop nm h1_0 h3 h4 f (anR s) true u g (.inr rfl) (by omega) (by omega) (by omega))
theorem group_holds : Holds k_group := conRd_of (ks := [c_aw, c_an, k_amore]) (hold1 c_aw_holds (hold1 c_an_holds (hold1 amore_holds hold0))) fun s b g => by
  have g' := sm_of g
  refine Runs.by (agroup_e · _ _) ?_
  simp only [bm, g, cond_true]
  have l1 := anR_le s
  exact .go (agroup_loop (anW s) _ _ _ (fu (anR s, awB s b)) (anR s) (awB s b) [] [] (.inl (Nat.lt_succ_self _)) (by omega) (by show 0 + ((anR s).length + 1) ≤ _; omega) (by show 0 + ((anR s).length + 1) ≤ _; omega))

noncomputable abbrev cr : Cfg := cfg [c_aw, k_amore]
def ruR (r : List Ru × Rs) : List L := .lst 65 (eRs r.1) :: stR r.2.1 r.2.2
theorem arules_loop : ∀ (f : Nat) (s : W) (b : Bool) (a : List Ru), (s.length < f ∨ b = true) → s.length ≤ 1000000 → a.length + f ≤ 1000002 → Runs cr (arules_q2 (mk s) b (eRs a)) (ruR (lqR f (s, b) a))
  | 0, s, b, a, h, _, _ => by
    have hb : b = true := h.resolve_left (by omega)
    subst hb
    exact Runs.by (arules_p2 · _ _ _) .ret
  | f + 1, s, b, a, h, h1, h2 => by
    refine Runs.by (arules_p2 · _ _ _) ?_
    simp only [bm, eRs_len]
    cases hm : mo (s, b) with
    | false =>
      have e : lqR (f + 1) (s, b) a = (a, (s, b)) := by rw [lqR, hm]; rfl
      have hm' : (!b && !List.isEmpty s) = false := hm
      rw [e, hm']
      exact .ret
    | true =>
      have hm' : (!b && !List.isEmpty s) = true := hm
      obtain ⟨hb, hne⟩ := mo_f hm
      rw [hm', sm_t h1]
      have l1 := anR_lt hne
      have l2 := anR_le (anR s)
      have l3 := anR_le (anR (anR s))
      have l4 := anR_le (anR (anR (anR s)))
      have rm : roomN (a.length + 1) 56 = true := roomN_t (by omega) (by omega)
      have hf : s.length < f + 1 := h.resolve_right (by rw [hb]; decide)
      simp only [cond_true, sm_t (show (anR s).length ≤ 1000000 by omega), sm_t (show (anR (anR s)).length ≤ 1000000 by omega), sm_t (show (anR (anR (anR s))).length ≤ 1000000 by omega), rm]
      have go : ∀ (w3 : W) (bb : Bool), w3 = rp (anW (anR (anR s))) → bb = (awB s b || !okR (anW s)) →
          Runs cr (arules_q2 (mk (anR (anR (anR (anR s))))) (awB (anR (anR (anR s))) (awB (anR (anR s)) (awB (anR s) bb))) (eRs a ++ [[.bool (anW s == wAllow), .str (mk (anW (anR s))), .str (mk w3), .str (mk (anW (anR (anR (anR s)))))]])) (ruR (lqR (f + 1) (s, b) a)) := fun w3 bb e3 eb => by
        have e : lqR (f + 1) (s, b) a = lqR f (sAW (sAW (sAW ((sAW (s, b)).1, (sAW (s, b)).2 || !okR (vAW (s, b)))))) (a ++ [(vAW (s, b) == wAllow, vAW ((sAW (s, b)).1, (sAW (s, b)).2 || !okR (vAW (s, b))), rp (vAW (sAW ((sAW (s, b)).1, (sAW (s, b)).2 || !okR (vAW (s, b))))), vAW (sAW (sAW ((sAW (s, b)).1, (sAW (s, b)).2 || !okR (vAW (s, b))))))]) := by
          rw [lqR, hm]; rfl
        rw [e, e3, eb]
        have := arules_loop f (anR (anR (anR (anR s)))) (awB (anR (anR (anR s))) (awB (anR (anR s)) (awB (anR s) (awB s b || !okR (anW s))))) (a ++ [(anW s == wAllow, anW (anR s), rp (anW (anR (anR s))), anW (anR (anR (anR s))))]) (.inl (by omega)) (by omega) (by simp; omega)
        rw [← eRs_snoc] at this
        exact this
      have fin : ∀ bb, bb = (awB s b || !okR (anW s)) → RunsF cr (fun G => cond (anW (anR (anR s)) == [45])
          (G (arules_q2 (mk (anR (anR (anR (anR s))))) (awB (anR (anR (anR s))) (awB (anR (anR s)) (awB (anR s) bb))) (eRs a ++ [[.bool (anW s == [97, 108, 108, 111, 119]), .str (mk (anW (anR s))), .str (mk []), .str (mk (anW (anR (anR (anR s)))))]])))
          (G (arules_q2 (mk (anR (anR (anR (anR s))))) (awB (anR (anR (anR s))) (awB (anR (anR s)) (awB (anR s) bb))) (eRs a ++ [[.bool (anW s == [97, 108, 108, 111, 119]), .str (mk (anW (anR s))), .str (mk (anW (anR (anR s)))), .str (mk (anW (anR (anR (anR s)))))]])))) (ruR (lqR (f + 1) (s, b) a)) := fun bb eb =>
        RunsF.cond (fun h4 => .go (go _ _ (by unfold rp; rw [h4]; rfl) eb)) (fun h4 => .go (go _ _ (by unfold rp; rw [h4]; rfl) eb))
      refine RunsF.cond (fun hp => ?_) (fun hp => ?_)
      · have hp' : (anW s == wAllow) = false := by simpa using hp
        refine RunsF.cond (fun hd => ?_) (fun hd => ?_)
        · have hd' : (anW s == wDeny) = false := by simpa using hd
          exact fin _ (by unfold okR; rw [hp', hd']; simp)
        · have hd' : (anW s == wDeny) = true := by simpa using hd
          exact fin _ (by unfold okR; rw [hd']; simp)
      · have hp' : (anW s == wAllow) = true := by simpa using hp
        exact fin _ (by unfold okR; rw [hp']; simp)
theorem rules_holds : Holds k_rules := conRd_of (ks := [c_aw, k_amore]) (hold1 c_aw_holds (hold1 amore_holds hold0)) fun s b g => by
  have g := sm_of g
  exact Runs.by (arules_e · _ _) (.go (arules_loop (fu (s, b)) s b [] (.inl (Nat.lt_succ_self _)) g (by show 0 + (s.length + 1) ≤ _; omega)))
end Go.Ab
namespace Go.Ab
open Go.Proofs

def nmL : List W := [[99, 111, 109, 109, 105, 116], [98, 114, 97, 110, 99, 104], [100, 114, 111, 112], [102, 111, 114, 119, 97, 114, 100], [105, 110, 103, 101, 115, 116], [109, 101, 114, 103, 101], [103, 114, 111, 117, 112], [114, 117, 108, 101, 115], [115, 101, 97, 114, 99, 104], [115, 97, 118, 101], [102, 111, 114, 103, 101, 116], [110, 111, 116, 105, 102, 121], [100, 101, 108, 105, 118, 101, 114], [116, 105, 99, 107], [114, 101, 110, 101, 119], [115, 121, 110, 99], [99, 114, 97, 115, 104], [115, 116, 97, 114, 116], [115, 108, 111, 119], [112, 114, 117, 110, 101], [114, 101, 119, 114, 105, 116, 101], [114, 101, 112, 111]]
def idxF : List W → Int → W → Int
  | [], _, _ => 0
  | x :: l, i, w => cond (x == w) i (idxF l (i + 1) w)
theorem idxF_no : ∀ (l : List W) (i : Int) (w : W), w ∉ l → idxF l i w = 0
  | [], _, _, _ => rfl
  | x :: l, i, w, h => by
    rw [List.mem_cons, not_or] at h
    have : (x == w) = false := by simpa using fun e => h.1 e.symm
    rw [idxF, this, cond_false]
    exact idxF_no l _ w h.2
theorem mapHas_mem : ∀ (es : List (ByteArray × Int)) (w : W), mapHas es (mk w) = true → w ∈ es.map fun p => bl p.1
  | [], _, h => by cases h
  | p :: es, w, h => by
    rw [mapHas] at h
    cases hb : ((mk w).data.toList == p.1.data.toList)
    · rw [hb] at h
      exact List.mem_cons_of_mem _ (mapHas_mem es w h)
    · have : w = bl p.1 := by simpa using hb
      rw [this]
      exact List.mem_cons_self
theorem names_in (w : W) (h : w ∈ cmdsL.map fun p => bl p.1) : w ∈ nmL := by
  have : ((cmdsL.map fun p => bl p.1).all fun w => nmL.contains w) = true := by decide +kernel
  simpa using List.all_eq_true.1 this w h
theorem nm_all : (nmL.all fun w => decide (idxF nmL 1 w = ct w)) = true := by decide +kernel
theorem cmd_eq (w : W) : idxF nmL 1 w = ct w := by
  by_cases h : w ∈ nmL
  · exact of_decide_eq_true (List.all_eq_true.1 nm_all w h)
  · rw [idxF_no _ _ _ h]
    unfold ct
    cases hm : mapHas cmdsL (mk w)
    · rfl
    · exact absurd (names_in w (mapHas_mem _ _ hm)) h
theorem ct_all : (nmL.all fun w => decide (1 ≤ ct w ∧ ct w ≤ 22)) = true := by decide +kernel
theorem ct_range (w : W) (h : ct w ≠ 0) : 1 ≤ ct w ∧ ct w ≤ 22 := by
  by_cases hm : w ∈ nmL
  · exact of_decide_eq_true (List.all_eq_true.1 ct_all w hm)
  · exact absurd (by rw [← cmd_eq, idxF_no _ _ _ hm]) h
theorem command_loop (w : W) : ∀ (m i : Nat), i + m = 22 → Runs (cfg []) (command_q3 (mk w) (i : Nat) (eSs nmL)) [.int .i64 (idxF (nmL.drop i) ((i : Int) + 1) w)]
  | 0, i, h => by
    obtain rfl : i = 22 := by omega
    exact Runs.by (command_p3 · _ _ _) .ret
  | m + 1, i, h => by
    have ih := command_loop w m (i + 1) (by omega)
    have hl : nmL.length = 22 := rfl
    refine Runs.by (command_p3 · _ _ _) ?_
    rw [drop_at [] (show i < nmL.length by omega), idxF]
    have ha : atL (eSs nmL) (i : Int) = eS1 (nmL.getD i []) := atL_map _ nmL i [] (by omega)
    have hc : bl (cT 0 (eS1 (nmL.getD i []))) = nmL.getD i [] := rfl
    simp (disch := omega) only [eSs_len, hl, ev_lt_t, ev_le_t, Bool.and_self, cond_true, ha, hc, bm, w64]
    refine RunsF.cond (fun he => ?_) (fun he => ?_)
    · rw [he]; exact .ret
    · rw [he]
      exact .go ih
theorem command_holds : Holds k_command := con_run (xs := []) hold0 fun aa hp r h => by
  split at h
  case h_2 => cases h
  rename_i w
  obtain ⟨g, rfl⟩ := xo h
  obtain ⟨w, rfl⟩ := str_cases w
  refine Runs.by (command_e · _) ?_
  have := command_loop w 22 0 rfl
  rw [List.drop_zero] at this
  rw [bm, ← cmd_eq]
  exact .go this

set_option maxHeartbeats 4000000 in
theorem aevent_runs (k : Int) (s : W) (b : Bool) (g : sm s.length = true) (h1 : 1 ≤ k) (h2 : k ≤ 22) :
    Runs (cfg [c_aw, c_an, c_at, k_writes, k_group, k_rules]) (.enter 46 [.lf (.int .i64 k), .lf (.ptr 0 0)] [.box [.str, .bool] [.str (mk s), .bool b]]) (encE (evG aOps k (s, b)).1 ++ stR (evG aOps k (s, b)).2.1 (evG aOps k (s, b)).2.2) := by
  have hs := sm_of g
  have sR : ∀ t : W, t.length ≤ 1000000 → (anR t).length ≤ 1000000 := fun t h => Nat.le_trans (anR_le t) h
  have sT : ∀ t : W, t.length ≤ 1000000 → (atS t).length ≤ 1000000 := fun t h => Nat.le_trans (atS_le t) h
  have e1 := sR s hs
  have e2 := sR _ e1
  have e3 := sR _ e2
  have e4 := sR _ e3
  have t2 := sT _ e1
  have t3 := sR _ t2
  have t4 := sR _ t3
  have t5 := sT _ e3
  have t6 := sT _ t5
  refine Runs.by (aevent_e · _ _ _) ?_
  simp only [bm, g, sm_t e1, sm_t e2, sm_t e3, sm_t t2, sm_t t3, sm_t t4, sm_t t5, cond_true]
  have hk : k = 1 ∨ k = 2 ∨ k = 3 ∨ k = 4 ∨ k = 5 ∨ k = 6 ∨ k = 7 ∨ k = 8 ∨ k = 9 ∨ k = 10 ∨ k = 11 ∨ k = 12 ∨ k = 13 ∨ k = 14 ∨ k = 15 ∨ k = 16 ∨ k = 17 ∨ k = 18 ∨ k = 19 ∨ k = 20 ∨ k = 21 ∨ k = 22 := by omega
  rcases hk with rfl | rfl | rfl | rfl | rfl | rfl | rfl | rfl | rfl | rfl | rfl | rfl | rfl | rfl | rfl | rfl | rfl | rfl | rfl | rfl | rfl | rfl <;> simp only [Int.reduceBEq, cond_true, cond_false] <;> exact .ret
theorem aevent_holds : Holds k_aevent := con_run (xs := [c_aw, c_an, c_at, k_writes, k_group, k_rules]) (hold1 c_aw_holds (hold1 c_an_holds (hold1 c_at_holds (hold1 writes_holds (hold1 group_holds (hold1 rules_holds hold0)))))) fun aa hp r h => by
  split at h
  case h_2 => cases h
  rename_i k s b
  obtain ⟨g, rfl⟩ := xo h
  rw [Bool.and_eq_true, Bool.and_eq_true] at g
  obtain ⟨s, rfl⟩ := str_cases s
  rw [size_mk] at g
  exact aevent_runs k s b g.1 (leI_t g.2.1) (leI_t g.2.2)

theorem upB_at : ∀ (s : W) (n : Nat), n < (upB s).length → (s.getD n 0).toNat ≠ 32
  | [], n, h => by cases h
  | c :: s, 0, h => by
    unfold upB at h
    rw [List.takeWhile_cons] at h
    intro e
    have e' : c.toNat = 32 := e
    rw [e'] at h
    simp at h
  | c :: s, n + 1, h => by
    unfold upB at h
    rw [List.takeWhile_cons] at h
    split at h
    · exact upB_at s n (Nat.lt_of_succ_lt_succ h)
    · cases h
theorem upB_end : ∀ (s : W), (upB s).length < s.length → (s.getD (upB s).length 0).toNat = 32
  | [], h => by cases h
  | c :: s, h => by
    unfold upB at h ⊢
    rw [List.takeWhile_cons] at h ⊢
    split at h
    · rename_i hc
      rw [if_pos hc]
      exact upB_end s (Nat.lt_of_succ_lt_succ h)
    · rename_i hc
      rw [if_neg hc]
      simpa using hc
noncomputable abbrev ca : Cfg := cfg [k_command, k_aevent]
theorem fin3_runs {C : Cfg} (r : Ev × Rs) : RunsF C (fun _ => cond r.2.2 (some (encE (ev0 0) ++ [.int .i64 3])) (cond (!bl (mk r.2.1) == bl (mk [])) (some (encE (ev0 0) ++ [.int .i64 3])) (some (encE r.1 ++ [.int .i64 0])))) (encE (fin3 r).1 ++ [.int .i64 (fin3 r).2]) := by
  obtain ⟨e, s, b⟩ := r
  unfold fin3
  cases b
  · cases s with
    | nil => exact .ret
    | cons c t => exact .ret
  · exact .ret
theorem aread_loop (s : W) (g : sm s.length = true) (h0_0 : Int) (h0_1 h0_2 h0_3 : ByteArray) (h0_4 h0_5 h0_6 h0_7 : Int) (h0_8 h0_9 : ByteArray) (h1 h2 h3 h4 : List (List L)) : ∀ (m n : Nat), n + m = (upB s).length →
    Runs ca (aread_q2 (mk s) (n : Nat) h0_0 h0_1 h0_2 h0_3 h0_4 h0_5 h0_6 h0_7 h0_8 h0_9 h1 h2 h3 h4) (encE (evL aOps s).1 ++ [.int .i64 (evL aOps s).2])
  | m + 1, n, h => by
    have hs := sm_of g
    have hu := upB_le s
    have hc := upB_at s n (by omega)
    have ih := aread_loop s g h0_0 h0_1 h0_2 h0_3 h0_4 h0_5 h0_6 h0_7 h0_8 h0_9 h1 h2 h3 h4 m (n + 1) (by omega)
    refine Runs.by (aread_p2 · _ _ _ _ _ _ _ _ _ _ _ _ _ _ _ _) ?_
    simp (disch := omega) only [size_mk, ev_lt_t, ev_le_t, Bool.and_self, cond_true, byI_mk, ev_ne_t, w64]
    exact .go ih
  | 0, n, h => by
    have hs := sm_of g
    have hu := upB_le s
    obtain rfl : n = (upB s).length := by omega
    refine Runs.by (aread_p2 · _ _ _ _ _ _ _ _ _ _ _ _ _ _ _ _) ?_
    have e1 : (mk s).extract 0 (upB s).length = mk (upB s) := by rw [ext_mk, List.drop_zero, upB_take]
    have e2 : (mk s).extract (upB s).length s.length = mk (s.drop (upB s).length) := ext_all s _
    have g1 : sm (upB s).length = true := sm_t (by omega)
    have g2 : sm (s.drop (upB s).length).length = true := sm_t (by rw [List.length_drop]; omega)
    have tail : RunsF ca (fun G => cond (ct (upB s) == 0) (some (encE (ev0 0) ++ [.int .i64 19])) (cond (leI 1 (ct (upB s)) && leI (ct (upB s)) 22)
        (cond (evG aOps (ct (upB s)) (s.drop (upB s).length, false)).2.2 (some (encE (ev0 0) ++ [.int .i64 3])) (cond (!bl (mk (evG aOps (ct (upB s)) (s.drop (upB s).length, false)).2.1) == bl (mk [])) (some (encE (ev0 0) ++ [.int .i64 3])) (some (encE (evG aOps (ct (upB s)) (s.drop (upB s).length, false)).1 ++ [.int .i64 0])))) none)) (encE (evL aOps s).1 ++ [.int .i64 (evL aOps s).2]) := by
      unfold evL
      cases hc : ct (upB s) == 0
      · have hne : ct (upB s) ≠ 0 := by simpa using hc
        obtain ⟨r1, r2⟩ := ct_range _ hne
        simp (disch := omega) only [ev_le_t, Bool.and_self, cond_true, cond_false]
        exact fin3_runs _
      · exact .ret
    rcases Nat.lt_or_ge (upB s).length s.length with hl | hl
    · have hc := upB_end s hl
      simp (disch := omega) only [size_mk, ev_lt_t, ev_le_t, Bool.and_self, cond_true, byI_mk, ev_ne_f, cond_false, Int.toNat_natCast, e1, e2, g1, g2, bm, Bool.true_and]
      exact tail
    · simp (disch := omega) only [size_mk, ev_lt_f, ev_le_t, Bool.and_self, cond_true, cond_false, Int.toNat_natCast, e1, e2, g1, g2, bm, Bool.true_and]
      exact tail
theorem read_holds : Holds k_read := con_run (xs := [k_command, k_aevent]) (hold1 command_holds (hold1 aevent_holds hold0)) fun aa hp r h => by
  unfold conEv at h
  split at h
  case h_2 => cases h
  rename_i s
  obtain ⟨g, rfl⟩ := xo h
  obtain ⟨s, rfl⟩ := str_cases s
  rw [size_mk] at g
  refine Runs.by (aread_e · _) ?_
  exact .go (aread_loop s g _ _ _ _ _ _ _ _ _ _ _ _ _ _ (upB s).length 0 (Nat.zero_add _))
end Go.Ab
namespace Go.Ab
open Go.Proofs

theorem rwS_le (s : W) (b : Bool) : (rwS s b).length ≤ s.length := by
  unfold rwS
  cases nxO s b
  · exact Nat.le_refl _
  · show ((s.drop 1).drop _).length ≤ _
    rw [List.length_drop, List.length_drop]; omega
theorem ptS_le (s : W) (b : Bool) : (ptS s b).length ≤ s.length := by
  unfold ptS
  cases nxO s b
  · exact Nat.le_refl _
  · have := tR_le (s.drop 1)
    rw [List.length_drop] at this
    show (tR (s.drop 1)).length ≤ _
    omega
def Fl (f : Nat) (x : Rs) : Prop := x.1.length < f ∨ x.2 = true
theorem nxO_t (s : W) : nxO s true = false := rfl
theorem fl_sW {f : Nat} {x : Rs} (h : Fl f x) : Fl f (sW x) := by
  rcases h with h | h
  · exact .inl (Nat.lt_of_le_of_lt (rwS_le _ _) h)
  · right
    show pwB x.1 x.2 = true
    rw [h]; rfl
theorem fl_sN {f : Nat} {x : Rs} (h : Fl f x) : Fl f (sN x) := by
  rcases h with h | h
  · exact .inl (Nat.lt_of_le_of_lt (rwS_le _ _) h)
  · right
    show pnB x.1 x.2 = true
    rw [h]; rfl
theorem fl_sT {f : Nat} {x : Rs} (h : Fl f x) : Fl f (sT x) := by
  rcases h with h | h
  · exact .inl (Nat.lt_of_le_of_lt (ptS_le _ _) h)
  · right
    show ptB x.1 x.2 = true
    rw [h]; rfl
theorem fl_mo {f : Nat} {x : Rs} (h : Fl (f + 1) x) (hm : mo x = true) : Fl f (sW x) := by
  obtain ⟨s, b⟩ := x
  obtain ⟨rfl, hne⟩ := mo_f hm
  have h : s.length < f + 1 := h.resolve_right (fun h => by cases h)
  cases hb : isBlk s
  · right
    show pwB s false = true
    unfold pwB nxO
    rw [hb]; rfl
  · left
    show (rwS s false).length < f
    unfold rwS nxO
    rw [hb]
    show ((s.drop 1).drop _).length < f
    have := List.length_pos_iff.2 hne
    rw [List.length_drop, List.length_drop]; omega
noncomputable abbrev cl : Cfg := cfg [c_pw, c_pn, c_pt, k_pmore]

section
variable (k : Int) (a1 a2 a3 : ByteArray) (a4 a5 a6 a7 : Int) (a8 a9 : ByteArray)
def bxR (x : Rs) (h2 h3 h4 h5 : List (List L)) : List L := [.str (mk x.1), .bool x.2, .int .i64 k, .str a1, .str a2, .str a3, .int .i64 a4, .int .i64 a5, .int .i64 a6, .int .i64 a7, .str a8, .str a9, .lst 3 h2, .lst 9 h3, .lst 65 h4, .lst 51 h5]
theorem plists_W (h2 h3 h4 : List (List L)) : ∀ (f : Nat) (x : Rs) (a : List Wr), Fl f x → x.1.length ≤ 1000000 → a.length + f ≤ 1000002 →
    Runs cl (plists_q10 (mk x.1) x.2 k a1 a2 a3 a4 a5 a6 a7 a8 a9 h2 h3 h4 (eWs a)) (bxR k a1 a2 a3 a4 a5 a6 a7 a8 a9 (lpW f x a).2 h2 h3 h4 (eWs (lpW f x a).1))
  | 0, (s, b), a, h, _, _ => by
    have hb : b = true := h.resolve_left (Nat.not_lt_zero _)
    subst hb
    exact Runs.by (plists_p10 · _ _ _ _ _ _ _ _ _ _ _ _ _ _ _ _) .ret
  | f + 1, (s, b), a, h, h1, hf => by
    have h1 : s.length ≤ 1000000 := h1
    refine Runs.by (plists_p10 · _ _ _ _ _ _ _ _ _ _ _ _ _ _ _ _) ?_
    simp only [bm, eWs_len, dupN_eq]
    cases hm : mo (s, b) with
    | false =>
      have e : lpW (f + 1) (s, b) a = (a, (s, b)) := by rw [lpW, hm]; rfl
      have hm' : (!b && !List.isEmpty s) = false := hm
      rw [e, hm']
      exact .ret
    | true =>
      have hm' : (!b && !List.isEmpty s) = true := hm
      rw [hm', sm_t h1]
      have l1 := rwS_le s b
      have l2 := rwS_le (rwS s b) (pwB s b)
      have l3 := ptS_le (rwS (rwS s b) (pwB s b)) (pwB (rwS s b) (pwB s b))
      have rm : roomN (a.length + 1) 40 = true := roomN_t (by omega) (by omega)
      have hn := fl_mo h hm
      simp only [cond_true, sm_t (show (rwS s b).length ≤ 1000000 by omega), sm_t (show (rwS (rwS s b) (pwB s b)).length ≤ 1000000 by omega), rm, both_self]
      refine RunsF.cond (fun hp => ?_) (fun hp => ?_)
      · have e : lpW (f + 1) (s, b) a = lpW f (sT (sW (sW (s, b)))) (a ++ [(vW (sW (s, b)), vT (sW (sW (s, b))), false)]) := by
          rw [lpW, hm, show (vW (s, b) == wPut) = true from hp]; rfl
        rw [e]
        exact .go (by
          have := plists_W h2 h3 h4 f (sT (sW (sW (s, b)))) (a ++ [(vW (sW (s, b)), vT (sW (sW (s, b))), false)]) (fl_sT (fl_sW hn)) (by show (ptS _ _).length ≤ _; exact Nat.le_trans l3 (by omega)) (by simp; omega)
          conv at this => arg 2; rw [← eWs_snoc]
          exact this)
      · refine RunsF.cond (fun hd => ?_) (fun hd => ?_)
        · have e : lpW (f + 1) (s, b) a = lpW f (sW (sW (s, b))) (a ++ [(vW (sW (s, b)), [], true)]) := by
            rw [lpW, hm, show (vW (s, b) == wPut) = false from hp, show (vW (s, b) == wDel) = true from hd]; rfl
          rw [e]
          exact .go (by
            have := plists_W h2 h3 h4 f (sW (sW (s, b))) (a ++ [(vW (sW (s, b)), [], true)]) (fl_sW hn) (by show (rwS _ _).length ≤ _; exact Nat.le_trans l2 (by omega)) (by simp; omega)
            conv at this => arg 2; rw [← eWs_snoc]
            exact this)
        · have e : lpW (f + 1) (s, b) a = lpW f ((sW (s, b)).1, true) a := by
            rw [lpW, hm, show (vW (s, b) == wPut) = false from hp, show (vW (s, b) == wDel) = false from hd]; rfl
          rw [e]
          exact .go (plists_W h2 h3 h4 f ((sW (s, b)).1, true) a (.inr rfl) (Nat.le_trans l1 h1) (by omega))
theorem plists_G (h4 h5 : List (List L)) : ∀ (f : Nat) (x : Rs) (u : List Int) (g : List W), Fl f x → x.1.length ≤ 1000000 → u.length + f ≤ 1000002 → g.length + f ≤ 1000002 →
    Runs cl (plists_q19 (mk x.1) x.2 k a1 a2 a3 a4 a5 a6 a7 a8 a9 (eIs u) (eSs g) h4 h5) (bxR k a1 a2 a3 a4 a5 a6 a7 a8 a9 (lpG f x u g).2 (eIs (lpG f x u g).1.1) (eSs (lpG f x u g).1.2) h4 h5)
  | 0, (s, b), u, g, h, _, _, _ => by
    have hb : b = true := h.resolve_left (Nat.not_lt_zero _)
    subst hb
    exact Runs.by (plists_p19 · _ _ _ _ _ _ _ _ _ _ _ _ _ _ _ _) .ret
  | f + 1, (s, b), u, g, h, h1, hf, hf' => by
    have h1 : s.length ≤ 1000000 := h1
    refine Runs.by (plists_p19 · _ _ _ _ _ _ _ _ _ _ _ _ _ _ _ _) ?_
    simp only [bm, eIs_len, eSs_len, dupN_eq]
    cases hm : mo (s, b) with
    | false =>
      have e : lpG (f + 1) (s, b) u g = ((u, g), (s, b)) := by rw [lpG, hm]; rfl
      have hm' : (!b && !List.isEmpty s) = false := hm
      rw [e, hm']
      exact .ret
    | true =>
      have hm' : (!b && !List.isEmpty s) = true := hm
      rw [hm', sm_t h1]
      have l1 := rwS_le s b
      have l2 := rwS_le (rwS s b) (pwB s b)
      have rm : roomN (u.length + 1) 8 = true := roomN_t (by omega) (by omega)
      have rm2 : roomN (g.length + 1) 16 = true := roomN_t (by omega) (by omega)
      have hn := fl_mo h hm
      simp only [cond_true, sm_t (show (rwS s b).length ≤ 1000000 by omega), rm, rm2]
      have goG : (vW (s, b) == wUser && g.isEmpty) = false → RunsF cl (fun G => cond (rwW s b == [103, 114, 111, 117, 112])
          (G (plists_q19 (mk (rwS (rwS s b) (pwB s b))) (pwB (rwS s b) (pwB s b)) k a1 a2 a3 a4 a5 a6 a7 a8 a9 (eIs u) (eSs g ++ [[.str (mk (rwW (rwS s b) (pwB s b)))]]) h4 h5))
          (G (plists_q19 (mk (rwS s b)) true k a1 a2 a3 a4 a5 a6 a7 a8 a9 (eIs u) (eSs g) h4 h5))) (bxR k a1 a2 a3 a4 a5 a6 a7 a8 a9 (lpG (f + 1) (s, b) u g).2 (eIs (lpG (f + 1) (s, b) u g).1.1) (eSs (lpG (f + 1) (s, b) u g).1.2) h4 h5) := fun hu => by
        refine RunsF.cond (fun hd => ?_) (fun hd => ?_)
        · have e : lpG (f + 1) (s, b) u g = lpG f (sW (sW (s, b))) u (g ++ [vW (sW (s, b))]) := by
            rw [lpG, hm, hu, show (vW (s, b) == wGroup) = true from hd]; rfl
          rw [e]
          exact .go (by
            have := plists_G h4 h5 f (sW (sW (s, b))) u (g ++ [vW (sW (s, b))]) (fl_sW hn) (by show (rwS _ _).length ≤ _; exact Nat.le_trans l2 (by omega)) (by omega) (by simp; omega)
            conv at this => arg 2; rw [← eSs_snoc]
            exact this)
        · have e : lpG (f + 1) (s, b) u g = lpG f ((sW (s, b)).1, true) u g := by
            rw [lpG, hm, hu, show (vW (s, b) == wGroup) = false from hd]; rfl
          rw [e]
          exact .go (plists_G h4 h5 f ((sW (s, b)).1, true) u g (.inr rfl) (Nat.le_trans l1 h1) (by omega) (by omega))
      have hg0 : (((g.length : Nat) : Int) == 0) = g.isEmpty := by
        cases g with
        | nil => rfl
        | cons a l => show (((l.length + 1 : Nat) : Int) == 0) = false; simp; omega
      simp only [hg0]
      refine RunsF.cond (fun hp => ?_) (fun hp => ?_)
      · refine RunsF.cond (fun hg => ?_) (fun hg => ?_)
        · have e : lpG (f + 1) (s, b) u g = lpG f (sN (sW (s, b))) (u ++ [vN (sW (s, b))]) g := by
            rw [lpG, hm, show (vW (s, b) == wUser) = true from hp, hg]; rfl
          rw [e]
          exact .go (by
            have := plists_G h4 h5 f (sN (sW (s, b))) (u ++ [vN (sW (s, b))]) g (fl_sN hn) (by show (rwS _ _).length ≤ _; exact Nat.le_trans l2 (by omega)) (by simp; omega) (by omega)
            conv at this => arg 2; rw [← eIs_snoc]
            exact this)
        · exact goG (by rw [hg, Bool.and_false])
      · exact goG (by rw [show (vW (s, b) == wUser) = false from hp]; rfl)
theorem plists_R (h2 h3 h5 : List (List L)) : ∀ (f : Nat) (x : Rs) (a : List Ru), Fl f x → x.1.length ≤ 1000000 → a.length + f ≤ 1000002 →
    Runs cl (plists_q1 (mk x.1) x.2 k a1 a2 a3 a4 a5 a6 a7 a8 a9 h2 h3 (eRs a) h5) (bxR k a1 a2 a3 a4 a5 a6 a7 a8 a9 (lpR f x a).2 h2 h3 (eRs (lpR f x a).1) h5)
  | 0, (s, b), a, h, _, _ => by
    have hb : b = true := h.resolve_left (Nat.not_lt_zero _)
    subst hb
    exact Runs.by (plists_p1 · _ _ _ _ _ _ _ _ _ _ _ _ _ _ _ _) .ret
  | f + 1, (s, b), a, h, h1, hf => by
    have h1 : s.length ≤ 1000000 := h1
    refine Runs.by (plists_p1 · _ _ _ _ _ _ _ _ _ _ _ _ _ _ _ _) ?_
    simp only [bm, eRs_len]
    cases hm : mo (s, b) with
    | false =>
      have e : lpR (f + 1) (s, b) a = (a, (s, b)) := by rw [lpR, hm]; rfl
      have hm' : (!b && !List.isEmpty s) = false := hm
      rw [e, hm']
      exact .ret
    | true =>
      have hm' : (!b && !List.isEmpty s) = true := hm
      rw [hm', sm_t h1]
      have hn := fl_mo h hm
      generalize e1 : sW (s, b) = x1 at *
      have l1 : x1.1.length ≤ s.length := by rw [← e1]; exact rwS_le s b
      generalize e2 : sW x1 = x2 at *
      have l2 : x2.1.length ≤ x1.1.length := by rw [← e2]; exact rwS_le _ _
      generalize e3 : sW x2 = x3 at *
      have l3 : x3.1.length ≤ x2.1.length := by rw [← e3]; exact rwS_le _ _
      generalize e4 : sW x3 = x4 at *
      have l4 : x4.1.length ≤ x3.1.length := by rw [← e4]; exact rwS_le _ _
      have f4 : Fl f x4 := by rw [← e4]; exact fl_sW (by rw [← e3]; exact fl_sW (by rw [← e2]; exact fl_sW hn))
      have q1 : rwS s b = x1.1 := congrArg Prod.fst e1
      have q1b : pwB s b = x1.2 := congrArg Prod.snd e1
      have q2 : rwS x1.1 x1.2 = x2.1 := congrArg Prod.fst e2
      have q2b : pwB x1.1 x1.2 = x2.2 := congrArg Prod.snd e2
      have q3 : rwS x2.1 x2.2 = x3.1 := congrArg Prod.fst e3
      have q3b : pwB x2.1 x2.2 = x3.2 := congrArg Prod.snd e3
      have q4 : rwS x3.1 x3.2 = x4.1 := congrArg Prod.fst e4
      have q4b : pwB x3.1 x3.2 = x4.2 := congrArg Prod.snd e4
      have rm : roomN (a.length + 1) 56 = true := roomN_t (by omega) (by omega)
      simp only [cond_true, q1, q1b, q2, q2b, q3, q3b, q4, q4b, sm_t (show x1.1.length ≤ 1000000 by omega), sm_t (show x2.1.length ≤ 1000000 by omega), sm_t (show x3.1.length ≤ 1000000 by omega), rm]
      have go : ∀ (w3 : W) (bb : Bool), w3 = rp (vW x2) → bb = (x4.2 || (!(vW (s, b) == wAllow) && !(vW (s, b) == wDeny))) →
          Runs cl (plists_q1 (mk x4.1) bb k a1 a2 a3 a4 a5 a6 a7 a8 a9 h2 h3 (eRs a ++ [[.bool (vW (s, b) == wAllow), .str (mk (vW x1)), .str (mk w3), .str (mk (vW x3))]]) h5) (bxR k a1 a2 a3 a4 a5 a6 a7 a8 a9 (lpR (f + 1) (s, b) a).2 h2 h3 (eRs (lpR (f + 1) (s, b) a).1) h5) := fun w3 bb e5 e6 => by
        have e : lpR (f + 1) (s, b) a = lpR f (x4.1, x4.2 || (!(vW (s, b) == wAllow) && !(vW (s, b) == wDeny))) (a ++ [(vW (s, b) == wAllow, vW x1, rp (vW x2), vW x3)]) := by
          rw [lpR, hm, e1, e2, e3, e4]; rfl
        rw [e, e5, e6]
        have := plists_R h2 h3 h5 f (x4.1, x4.2 || (!(vW (s, b) == wAllow) && !(vW (s, b) == wDeny))) (a ++ [(vW (s, b) == wAllow, vW x1, rp (vW x2), vW x3)]) (f4.elim .inl fun h => .inr (by show (x4.2 || _) = true; rw [h]; rfl)) (by show x4.1.length ≤ _; omega) (by simp; omega)
        conv at this => arg 2; rw [← eRs_snoc]
        exact this
      have fin : ∀ w3, w3 = rp (vW x2) → RunsF cl (fun G => cond x4.2
          (G (plists_q1 (mk x4.1) true k a1 a2 a3 a4 a5 a6 a7 a8 a9 h2 h3 (eRs a ++ [[.bool (vW (s, b) == wAllow), .str (mk (vW x1)), .str (mk w3), .str (mk (vW x3))]]) h5))
          (cond (!vW (s, b) == wAllow)
            (G (plists_q1 (mk x4.1) (!vW (s, b) == wDeny) k a1 a2 a3 a4 a5 a6 a7 a8 a9 h2 h3 (eRs a ++ [[.bool (vW (s, b) == wAllow), .str (mk (vW x1)), .str (mk w3), .str (mk (vW x3))]]) h5))
            (G (plists_q1 (mk x4.1) false k a1 a2 a3 a4 a5 a6 a7 a8 a9 h2 h3 (eRs a ++ [[.bool (vW (s, b) == wAllow), .str (mk (vW x1)), .str (mk w3), .str (mk (vW x3))]]) h5))))
          (bxR k a1 a2 a3 a4 a5 a6 a7 a8 a9 (lpR (f + 1) (s, b) a).2 h2 h3 (eRs (lpR (f + 1) (s, b) a).1) h5) := fun w3 hw =>
        RunsF.cond (fun hx => .go (go _ _ hw (by rw [hx]; rfl))) (fun hx => RunsF.cond (fun hy => .go (go _ _ hw (by rw [hx, hy]; rfl))) (fun hy => .go (go _ _ hw (by rw [hx, hy]; rfl))))
      exact RunsF.cond (fun hx => fin [] (by unfold rp; rw [show (vW x2 == [45]) = true from hx]; rfl)) (fun hx => fin _ (by unfold rp; rw [show (vW x2 == [45]) = false from hx]; rfl))
end
end Go.Ab
namespace Go.Ab
open Go.Proofs

theorem isE0 {α : Type} {l : List α} (h : l.isEmpty = true) : l = [] := by simpa using h
theorem isEb0 {a : ByteArray} (h : (bl a).isEmpty = true) : a = mk [] := by
  obtain ⟨l, rfl⟩ := str_cases a
  rw [bl_mk] at h
  rw [isE0 h]
theorem lists_runs (k : Int) (s : W) (b : Bool) (g : s.length ≤ 1000000) :
    Runs cl (.enter 39 [(.lf (.ptr 0 0)), (.lf (.ptr 1 0))] [.box [.str, .bool] [.str (mk s), .bool b], .box K42 [.int .i64 k, .str (mk []), .str (mk []), .str (mk []), .int .i64 0, .int .i64 0, .int .i64 0, .int .i64 0, .str (mk []), .str (mk []), .row 2, .row 3, .row 4, .row 5], .row 3 [] true, .row 9 [] true, .row 65 [] true, .row 51 [] true])
      (.str (mk (ls k (s, b)).2.1) :: .bool (ls k (s, b)).2.2 :: encE (ls k (s, b)).1) := by
  refine Runs.by (plists_e · _ _ _) ?_
  have l1 := rwS_le s b
  have l2 := rwS_le (rwS s b) (pwB s b)
  have l3 := rwS_le (rwS (rwS s b) (pwB s b)) (pwB (rwS s b) (pwB s b))
  simp only [bm, sm_t g, sm_t (show (rwS s b).length ≤ 1000000 by omega), sm_t (show (rwS (rwS s b) (pwB s b)).length ≤ 1000000 by omega), cond_true]
  have q3 : (sN (sW (sW (s, b)))).1.length ≤ s.length := Nat.le_trans l3 (Nat.le_trans l2 l1)
  have q1 : (sW (s, b)).1.length ≤ s.length := l1
  unfold ls
  refine RunsF.cond (fun h => ?_) (fun h => ?_)
  · rw [h, cond_true]
    have := plists_W k (mk (vW (s, b))) (mk (vW (sW (s, b)))) (mk []) (vN (sW (sW (s, b)))) 0 0 0 (mk []) (mk []) [] [] [] (fu (sN (sW (sW (s, b))))) (sN (sW (sW (s, b)))) [] (.inl (Nat.lt_succ_self _)) (Nat.le_trans q3 g) (by show 0 + ((sN (sW (sW (s, b)))).1.length + 1) ≤ _; omega)
    exact .go this
  · rw [h, cond_false]
    refine RunsF.cond (fun h => ?_) (fun h => ?_)
    · rw [h, cond_true]
      have := plists_G k (mk []) (mk []) (mk []) 0 0 0 0 (mk []) (mk (vW (s, b))) [] [] (fu (sW (s, b))) (sW (s, b)) [] [] (.inl (Nat.lt_succ_self _)) (Nat.le_trans q1 g) (by show 0 + ((sW (s, b)).1.length + 1) ≤ _; omega) (by show 0 + ((sW (s, b)).1.length + 1) ≤ _; omega)
      exact .go this
    · rw [h, cond_false]
      have := plists_R k (mk []) (mk []) (mk []) 0 0 0 0 (mk []) (mk []) [] [] [] (fu (s, b)) (s, b) [] (.inl (Nat.lt_succ_self _)) g (by show 0 + (s.length + 1) ≤ _; omega)
      exact .go this
theorem lists_holds : Holds k_lists := con_run (xs := [c_pw, c_pn, c_pt, k_pmore]) (hold1 c_pw_holds (hold1 c_pn_holds (hold1 c_pt_holds (hold1 pmore_holds hold0)))) fun aa hp r h => by
  split at h
  case h_2 => cases h
  rename_i s b k a1 a2 a3 a4 a5 a6 a7 a8 a9 h2 h3 h4 h5
  obtain ⟨g, rfl⟩ := xo h
  simp only [Bool.and_eq_true, beq_iff_eq] at g
  obtain ⟨g0, ⟨⟨⟨⟨⟨⟨⟨⟨⟨g1, g2⟩, g3⟩, g4⟩, g5⟩, g6⟩, g7⟩, g8⟩, g9⟩, ⟨⟨g10, g11⟩, g12⟩, g13⟩⟩ := g
  obtain rfl := isEb0 g1
  obtain rfl := isEb0 g2
  obtain rfl := isEb0 g3
  subst g4 g5 g6 g7
  obtain rfl := isEb0 g8
  obtain rfl := isEb0 g9
  obtain rfl := isE0 g10
  obtain rfl := isE0 g11
  obtain rfl := isE0 g12
  obtain rfl := isE0 g13
  obtain ⟨s, rfl⟩ := str_cases s
  rw [size_mk] at g0
  exact lists_runs k s b (sm_of g0)

noncomputable abbrev cp : Cfg := cfg [k_commands, k_Cut, c_pw, c_pn, c_pt, k_lists]
theorem has_all : (nmL.all fun w => decide (1 ≤ ct w)) = true := by decide +kernel
theorem has_ct (w : W) (h : mapHas cmdsL (mk w) = true) : 1 ≤ ct w := of_decide_eq_true (List.all_eq_true.1 has_all w (names_in w (mapHas_mem _ _ h)))
theorem fin3_runs' {C : Cfg} (r : Ev × Rs) (F : (Req → R) → R) (h : F = fun _ => cond r.2.2 (some (encE (ev0 0) ++ [.int .i64 3])) (cond (!bl (mk r.2.1) == bl (mk [])) (some (encE (ev0 0) ++ [.int .i64 3])) (some (encE r.1 ++ [.int .i64 0])))) : RunsF C F (encE (fin3 r).1 ++ [.int .i64 (fin3 r).2]) := by
  rw [h]; exact fin3_runs r
set_option maxHeartbeats 4000000 in
theorem pevent_runs (k : Int) (s : W) (g : s.length ≤ 1000000) (h1 : 1 ≤ k) (h2 : k ≤ 22) (r3 r4 r5 r6 r7 r8 r9 r10 : List (List L)) (e7 : r7 = []) (e8 : r8 = []) (e9 : r9 = []) (e10 : r10 = []) :
    Runs cp (pevent_q7 k 0 (mk []) (mk []) (mk []) 0 0 0 0 (mk []) (mk []) (mk s) false k (mk []) (mk []) (mk []) 0 0 0 0 (mk []) (mk []) r3 r4 r5 r6 r7 r8 r9 r10) (encE (fin3 (evG pOps k (s, false))).1 ++ [.int .i64 (fin3 (evG pOps k (s, false))).2]) := by
  subst e7 e8 e9 e10
  have sR : ∀ (t : W) (b : Bool), t.length ≤ 1000000 → (rwS t b).length ≤ 1000000 := fun t b h => Nat.le_trans (rwS_le t b) h
  have sT : ∀ (t : W) (b : Bool), t.length ≤ 1000000 → (ptS t b).length ≤ 1000000 := fun t b h => Nat.le_trans (ptS_le t b) h
  have sm1 : ∀ (t : W) (b : Bool), sm t.length = true → sm (rwS t b).length = true := fun t b h => sm_t (sR t b (sm_of h))
  have sm2 : ∀ (t : W) (b : Bool), sm t.length = true → sm (ptS t b).length = true := fun t b h => sm_t (sT t b (sm_of h))
  have g0 := sm_t g
  refine Runs.by (pevent_p7 · _ _ _ _ _ _ _ _ _ _ _ _ _ _ _ _ _ _ _ _ _ _ _ _ _ _ _ _ _ _ _) ?_
  have gg : (sm (mk s).size && (List.isEmpty (bl (mk [])) && List.isEmpty (bl (mk [])) && List.isEmpty (bl (mk [])) && (0 : Int) == 0 && (0 : Int) == 0 && (0 : Int) == 0 && (0 : Int) == 0 && List.isEmpty (bl (mk [])) && List.isEmpty (bl (mk [])) && (List.isEmpty ([] : List (List L)) && List.isEmpty ([] : List (List L)) && List.isEmpty ([] : List (List L)) && List.isEmpty ([] : List (List L))))) = true := by
    rw [size_mk, g0]; rfl
  rw [gg]
  have hk : k = 1 ∨ k = 2 ∨ k = 3 ∨ k = 4 ∨ k = 5 ∨ k = 6 ∨ k = 7 ∨ k = 8 ∨ k = 9 ∨ k = 10 ∨ k = 11 ∨ k = 12 ∨ k = 13 ∨ k = 14 ∨ k = 15 ∨ k = 16 ∨ k = 17 ∨ k = 18 ∨ k = 19 ∨ k = 20 ∨ k = 21 ∨ k = 22 := by omega
  rcases hk with rfl | rfl | rfl | rfl | rfl | rfl | rfl | rfl | rfl | rfl | rfl | rfl | rfl | rfl | rfl | rfl | rfl | rfl | rfl | rfl | rfl | rfl <;> simp (maxDischargeDepth := 9) only [Int.reduceBEq, cond_true, cond_false, bl_mk, g0, sm1, sm2] <;> exact fin3_runs' _ _ rfl
theorem pevent_holds : Holds k_pevent := con_run (xs := [k_commands, k_Cut, c_pw, c_pn, c_pt, k_lists]) (hold1 commands_holds (hold1 Cut_holds (hold1 c_pw_holds (hold1 c_pn_holds (hold1 c_pt_holds (hold1 lists_holds hold0)))))) fun aa hp r h => by
  unfold conEv at h
  split at h
  case h_2 => cases h
  rename_i s
  obtain ⟨g, rfl⟩ := xo h
  obtain ⟨s, rfl⟩ := str_cases s
  have g' := sm_of g
  rw [size_mk] at g'
  refine Runs.by (pevent_e · _) ?_
  have hu := upB_le s
  have e2 : (mk s).extract (upB s).length s.length = mk (s.drop (upB s).length) := ext_all s _
  simp (disch := omega) only [size_mk, bl_mk, Nat.ble_eq_true_of_le g', Bool.and_self, cond_true, ev_le_t, Int.toNat_natCast, e2]
  unfold evL
  cases hm : mapHas cmdsL (mk (upB s))
  · have e : ct (upB s) = 0 := by unfold ct; rw [hm]; rfl
    rw [e]
    exact .ret
  · have e : ct (upB s) = mapGet cmdsL (mk (upB s)) := by unfold ct; rw [hm]; rfl
    rw [← e]
    have hne : ct (upB s) ≠ 0 := fun h0 => by
      have := has_ct _ hm
      omega
    obtain ⟨r1, r2⟩ := ct_range _ hne
    have hb : (ct (upB s) == 0) = false := by simpa using hne
    rw [hb]
    exact .go (pevent_runs _ _ (by rw [List.length_drop]; omega) r1 r2 _ _ _ _ _ _ _ _ rfl rfl rfl rfl)
end Go.Ab
namespace Go.Ab
open Go.Proofs

def Dm (x : Rs) : Prop := x.2 = true ∨ (x.1 ≠ [] ∧ isBlk x.1 = false)
def Sm (x y : Rs) : Prop := (x = y ∧ x.2 = false ∧ (x.1 = [] ∨ isBlk x.1 = true)) ∨ (Dm x ∧ Dm y)
theorem Sm.good {x y : Rs} (h : Sm x y) (hd : ¬ Dm x) : x = y := h.elim (fun h => h.1) fun h => absurd h.1 hd
theorem good_sm {x : Rs} : Sm x x := by
  obtain ⟨s, b⟩ := x
  cases b
  · by_cases h : s = []
    · exact .inl ⟨rfl, rfl, .inl h⟩
    · cases hb : isBlk s
      · exact .inr ⟨.inr ⟨h, hb⟩, .inr ⟨h, hb⟩⟩
      · exact .inl ⟨rfl, rfl, .inr hb⟩
  · exact .inr ⟨.inl rfl, .inl rfl⟩
theorem dm_nx {x : Rs} (h : Dm x) : nxO x.1 x.2 = false := by
  unfold nxO
  rcases h with h | h
  · rw [h]; rfl
  · rw [h.2, Bool.and_false]
theorem dm_an {x : Rs} (h : Dm x) : anB x.1 x.2 = true := by
  unfold anB
  rcases h with h | h
  · rw [h]; rfl
  · rw [h.2, Bool.not_false, Bool.or_true]
theorem dm_sW {x : Rs} (h : Dm x) : (sW x).2 = true := by show pwB x.1 x.2 = true; unfold pwB; rw [dm_nx h]; rfl
theorem dm_sN {x : Rs} (h : Dm x) : (sN x).2 = true := by show pnB x.1 x.2 = true; unfold pnB; rw [dm_nx h]; rfl
theorem dm_sT {x : Rs} (h : Dm x) : (sT x).2 = true := by show ptB x.1 x.2 = true; unfold ptB ptO; rw [dm_nx h]; rfl
theorem dm_sAW {x : Rs} (h : Dm x) : (sAW x).2 = true := by show awB x.1 x.2 = true; unfold awB; rw [dm_an h]; rfl
theorem dm_sAN {x : Rs} (h : Dm x) : (sAN x).2 = true := by show awNB x.1 x.2 = true; unfold awNB; rw [dm_an h]; rfl
theorem dm_sAT {x : Rs} (h : Dm x) : (sAT x).2 = true := by show awTB x.1 x.2 = true; unfold awTB; rw [dm_an h]; rfl
theorem dW {x : Rs} (h : Dm x) : Dm (sW x) := .inl (dm_sW h)
theorem dN {x : Rs} (h : Dm x) : Dm (sN x) := .inl (dm_sN h)
theorem dT {x : Rs} (h : Dm x) : Dm (sT x) := .inl (dm_sT h)
theorem dAW {x : Rs} (h : Dm x) : Dm (sAW x) := .inl (dm_sAW h)
theorem dAN {x : Rs} (h : Dm x) : Dm (sAN x) := .inl (dm_sAN h)
theorem dAT {x : Rs} (h : Dm x) : Dm (sAT x) := .inl (dm_sAT h)

theorem vis_not32 {c : UInt8} (h : isVis c = true) : (c.toNat == 32) = false := by
  rw [vis_b, decide_eq_true_eq] at h
  rw [beq_eq_false_iff_ne]; omega
theorem vis_up : ∀ t : W, (upB t).all isVis = true → vis t = upB t
  | [], _ => rfl
  | c :: t, h => by
    unfold upB vis at *
    rw [List.takeWhile_cons] at h ⊢
    rw [List.takeWhile_cons]
    by_cases hc : (c.toNat == 32) = true
    · have hv : isVis c = false := by
        cases hv : isVis c
        · rfl
        · rw [vis_not32 hv] at hc; cases hc
      rw [hv, hc]; rfl
    · have hc : (c.toNat == 32) = false := by simpa using hc
      rw [hc] at h ⊢
      simp only [Bool.not_false, if_true, List.all_cons, Bool.and_eq_true] at h ⊢
      rw [h.1, if_pos rfl]
      have := vis_up t h.2
      unfold vis upB at this
      rw [this]
theorem vis_bad : ∀ t : W, (upB t).all isVis = false → t.drop (vis t).length ≠ [] ∧ isBlk (t.drop (vis t).length) = false
  | [], h => by cases h
  | c :: t, h => by
    unfold upB at h
    rw [List.takeWhile_cons] at h
    by_cases hc : (c.toNat == 32) = true
    · rw [hc] at h
      cases h
    · have hc : (c.toNat == 32) = false := by simpa using hc
      rw [hc] at h
      simp only [Bool.not_false, if_true, List.all_cons] at h
      unfold vis
      rw [List.takeWhile_cons]
      cases hv : isVis c
      · exact ⟨by simp, hc⟩
      · rw [hv, Bool.true_and] at h
        have := vis_bad t h
        unfold vis at this
        simpa using this
theorem up_rest (t : W) : t.drop (upB t).length = [] ∨ isBlk (t.drop (upB t).length) = true := by
  rcases Nat.lt_or_ge (upB t).length t.length with h | h
  · right
    rw [drop_at 0 h]
    have := upB_end t h
    show (_ == 32) = true
    rw [this]; rfl
  · left
    exact drop_end h
theorem blk_of {x : Rs} (h : isBlk x.1 = true) (hb : x.2 = false) : nxO x.1 x.2 = true ∧ anB x.1 x.2 = false ∧ anS x.1 = x.1.drop 1 := by
  unfold nxO anB anS
  rw [h, hb]
  exact ⟨rfl, rfl, rfl⟩
theorem nil_p : sW ([], false) = ([], true) ∧ sN ([], false) = ([], true) ∧ sT ([], false) = ([], true) := ⟨rfl, rfl, rfl⟩
theorem nil_a : (sAW ([], false)).2 = true ∧ (sAN ([], false)).2 = true ∧ (sAT ([], false)).2 = true := ⟨rfl, rfl, rfl⟩
theorem stepW_blk (s : W) (h : isBlk s = true) : Sm (sW (s, false)) (sAW (s, false)) ∧ (¬ Dm (sW (s, false)) → vW (s, false) = vAW (s, false)) := by
  obtain ⟨h1, h2, h3⟩ := blk_of (x := (s, false)) h rfl
  have h1 : nxO s false = true := h1
  have h2 : anB s false = false := h2
  have h3 : anS s = s.drop 1 := h3
  have ep : sW (s, false) = ((s.drop 1).drop (upB (s.drop 1)).length, !wdOk (upB (s.drop 1))) := by
    show (rwS s false, pwB s false) = _
    unfold rwS pwB rwW
    rw [h1]; rfl
  have ev : vW (s, false) = upB (s.drop 1) := by
    show rwW s false = _
    unfold rwW
    rw [h1]; rfl
  have ea : sAW (s, false) = ((s.drop 1).drop (vis (s.drop 1)).length, !awOk (vis (s.drop 1))) := by
    show (anR s, awB s false) = _
    unfold anR awB anW
    rw [h2, h3]; rfl
  have eva : vAW (s, false) = vis (s.drop 1) := by
    show anW s = _
    unfold anW
    rw [h3]
  generalize s.drop 1 = t at *
  rw [ep, ev, ea, eva]
  cases hv : (upB t).all isVis
  · have hb : wdOk (upB t) = false := by unfold wdOk; rw [hv, Bool.and_false, Bool.and_false]
    rw [hb]
    exact ⟨.inr ⟨.inl rfl, .inr (vis_bad t hv)⟩, fun h => absurd (.inl rfl) h⟩
  · have e := vis_up t hv
    have eo : awOk (upB t) = wdOk (upB t) := by unfold awOk wdOk; rw [hv, Bool.and_true]
    rw [e, eo]
    refine ⟨?_, fun _ => rfl⟩
    cases hw : wdOk (upB t)
    · exact .inr ⟨.inl rfl, .inl rfl⟩
    · exact .inl ⟨rfl, rfl, up_rest t⟩
theorem stepW {x y : Rs} (h : Sm x y) : Sm (sW x) (sAW y) ∧ (¬ Dm (sW x) → vW x = vAW y) := by
  rcases h with ⟨rfl, hb, hs⟩ | ⟨h1, h2⟩
  · obtain ⟨s, b⟩ := x
    have hb : b = false := hb
    subst hb
    rcases hs with hs | hs
    · have hs : s = [] := hs
      subst hs
      exact ⟨.inr ⟨.inl rfl, .inl rfl⟩, fun h => absurd (.inl rfl) h⟩
    · exact stepW_blk s hs
  · exact ⟨.inr ⟨dW h1, dAW h2⟩, fun h => absurd (dW h1) h⟩

theorem num_vis (w : W) (h : numOk w = true) : w.all isVis = true := by
  unfold numOk at h
  simp only [Bool.and_eq_true] at h
  have hd := h.2.2.2
  have hall : (digs w).all isVis = true := List.all_eq_true.2 fun c hc => by
    have := List.all_eq_true.1 hd c hc
    rw [isDg_eq, decide_eq_true_eq] at this
    rw [vis_b, decide_eq_true_eq]; omega
  unfold digs at hall
  cases hm : isMin w
  · rw [hm] at hall; exact hall
  · rw [hm] at hall
    cases w with
    | nil => cases hm
    | cons c t =>
      have hc : c.toNat = 45 := by simpa [isMin] using hm
      rw [List.all_cons, Bool.and_eq_true]
      exact ⟨by rw [vis_b, decide_eq_true_eq]; omega, hall⟩
theorem num_len (w : W) (h : numOk w = true) : 1 ≤ w.length ∧ w.length ≤ 10 := by
  unfold numOk at h
  simp only [Bool.and_eq_true] at h
  have h1 := Nat.le_of_ble_eq_true h.1
  have h2 := Nat.le_of_ble_eq_true h.2.1
  unfold digs at h1 h2
  cases hm : isMin w
  · rw [hm] at h1 h2; exact ⟨h1, Nat.le_trans h2 (by decide)⟩
  · rw [hm] at h1 h2
    simp only [cond_true, List.length_drop] at h1 h2
    omega
theorem stepN_blk (s : W) (h : isBlk s = true) : Sm (sN (s, false)) (sAN (s, false)) ∧ (¬ Dm (sN (s, false)) → vN (s, false) = vAN (s, false)) := by
  obtain ⟨h1, h2, h3⟩ := blk_of (x := (s, false)) h rfl
  have h1 : nxO s false = true := h1
  have h2 : anB s false = false := h2
  have h3 : anS s = s.drop 1 := h3
  have ep : sN (s, false) = ((s.drop 1).drop (upB (s.drop 1)).length, !numOk (upB (s.drop 1))) := by
    show (rwS s false, pnB s false) = _
    unfold rwS pnB rwW
    rw [h1]; rfl
  have ev : vN (s, false) = numR (upB (s.drop 1)) := by
    show numR (rwW s false) = _
    unfold rwW
    rw [h1]; rfl
  have ea : sAN (s, false) = ((s.drop 1).drop (vis (s.drop 1)).length, !awOk (vis (s.drop 1)) || !numOk (vis (s.drop 1))) := by
    show (anR s, awNB s false) = _
    unfold anR awNB anW
    rw [h2, h3]; rfl
  have eva : vAN (s, false) = numR (vis (s.drop 1)) := by
    show numR (anW s) = _
    unfold anW
    rw [h3]
  generalize s.drop 1 = t at *
  rw [ep, ev, ea, eva]
  cases hv : (upB t).all isVis
  · have hb : numOk (upB t) = false := by
      cases hn : numOk (upB t)
      · rfl
      · rw [num_vis _ hn] at hv; cases hv
    rw [hb]
    exact ⟨.inr ⟨.inl rfl, .inr (vis_bad t hv)⟩, fun h => absurd (.inl rfl) h⟩
  · have e := vis_up t hv
    rw [e]
    refine ⟨?_, fun _ => rfl⟩
    cases hw : numOk (upB t)
    · exact .inr ⟨.inl rfl, .inl (by rw [Bool.not_false, Bool.or_true])⟩
    · have := num_len _ hw
      have eo : awOk (upB t) = true := by
        unfold awOk
        rw [Nat.ble_eq_true_of_le this.1, Nat.ble_eq_true_of_le (show (upB t).length ≤ 60 by omega)]; rfl
      rw [eo]
      exact .inl ⟨rfl, rfl, up_rest t⟩
theorem stepNm {x y : Rs} (h : Sm x y) : Sm (sN x) (sAN y) ∧ (¬ Dm (sN x) → vN x = vAN y) := by
  rcases h with ⟨rfl, hb, hs⟩ | ⟨h1, h2⟩
  · obtain ⟨s, b⟩ := x
    have hb : b = false := hb
    subst hb
    rcases hs with hs | hs
    · have hs : s = [] := hs
      subst hs
      exact ⟨.inr ⟨.inl rfl, .inl rfl⟩, fun h => absurd (.inl rfl) h⟩
    · exact stepN_blk s hs
  · exact ⟨.inr ⟨dN h1, dAN h2⟩, fun h => absurd (dN h1) h⟩

theorem stepT_blk (s : W) (h : isBlk s = true) : Sm (sT (s, false)) (sAT (s, false)) ∧ (¬ Dm (sT (s, false)) → vT (s, false) = vAT (s, false)) := by
  obtain ⟨h1, h2, h3⟩ := blk_of (x := (s, false)) h rfl
  have h1 : nxO s false = true := h1
  have h2 : anB s false = false := h2
  have h3 : anS s = s.drop 1 := h3
  have ep : sT (s, false) = (tR (s.drop 1), !(tO (s.drop 1) && sh (tV (s.drop 1)))) := by
    show (ptS s false, ptB s false) = _
    unfold ptS ptB ptO ptV
    rw [h1]; rfl
  have ev : vT (s, false) = tV (s.drop 1) := by
    show ptV s false = _
    unfold ptV
    rw [h1]; rfl
  have ea : sAT (s, false) = (cond (tO (s.drop 1) && sh (tV (s.drop 1))) (tR (s.drop 1)) (s.drop 1), !(tO (s.drop 1) && sh (tV (s.drop 1)))) := by
    show (atS s, awTB s false) = _
    unfold atS awTB atO
    rw [h2, h3]; rfl
  have eva : vAT (s, false) = cond (tO (s.drop 1) && sh (tV (s.drop 1))) (tV (s.drop 1)) [] := by
    show atV s = _
    unfold atV atO
    rw [h3]
  generalize s.drop 1 = t at *
  rw [ep, ev, ea, eva]
  cases hv : (tO t && sh (tV t))
  · exact ⟨.inr ⟨.inl rfl, .inl rfl⟩, fun h => absurd (.inl rfl) h⟩
  · exact ⟨good_sm, fun _ => rfl⟩
theorem stepT {x y : Rs} (h : Sm x y) : Sm (sT x) (sAT y) ∧ (¬ Dm (sT x) → vT x = vAT y) := by
  rcases h with ⟨rfl, hb, hs⟩ | ⟨h1, h2⟩
  · obtain ⟨s, b⟩ := x
    have hb : b = false := hb
    subst hb
    rcases hs with hs | hs
    · have hs : s = [] := hs
      subst hs
      exact ⟨.inr ⟨.inl rfl, .inl rfl⟩, fun h => absurd (.inl rfl) h⟩
    · exact stepT_blk s hs
  · exact ⟨.inr ⟨dT h1, dAT h2⟩, fun h => absurd (dT h1) h⟩
end Go.Ab
namespace Go.Ab
open Go.Proofs

theorem bad_sW {x : Rs} (h : x.2 = true) : (sW x).2 = true := dm_sW (.inl h)
theorem bad_sN {x : Rs} (h : x.2 = true) : (sN x).2 = true := dm_sN (.inl h)
theorem bad_sT {x : Rs} (h : x.2 = true) : (sT x).2 = true := dm_sT (.inl h)
theorem bad_mo {x : Rs} (h : x.2 = true) : mo x = false := by unfold mo; rw [h]; rfl
theorem lpW_bad : ∀ (f : Nat) (x : Rs) (a : List Wr), x.2 = true → (lpW f x a).2 = x
  | 0, _, _, _ => rfl
  | f + 1, x, a, h => by rw [lpW, bad_mo h]; rfl
theorem lpG_bad : ∀ (f : Nat) (x : Rs) (u : List Int) (g : List W), x.2 = true → (lpG f x u g).2 = x
  | 0, _, _, _, _ => rfl
  | f + 1, x, u, g, h => by rw [lpG, bad_mo h]; rfl
theorem lpR_bad : ∀ (f : Nat) (x : Rs) (a : List Ru), x.2 = true → (lpR f x a).2 = x
  | 0, _, _, _ => rfl
  | f + 1, x, a, h => by rw [lpR, bad_mo h]; rfl
theorem lqW_bad : ∀ (f : Nat) (x : Rs) (a : List Wr), x.2 = true → (lqW f x a).2 = x
  | 0, _, _, _ => rfl
  | f + 1, x, a, h => by rw [lqW, bad_mo h]; rfl
theorem lqG_bad : ∀ (f : Nat) (x : Rs) (u : List Int) (g : List W), x.2 = true → (lqG f x u g).2 = x
  | 0, _, _, _, _ => rfl
  | f + 1, x, u, g, h => by rw [lqG, bad_mo h]; rfl
theorem lqR_bad : ∀ (f : Nat) (x : Rs) (a : List Ru), x.2 = true → (lqR f x a).2 = x
  | 0, _, _, _ => rfl
  | f + 1, x, a, h => by rw [lqR, bad_mo h]; rfl
theorem lpW_dm (f : Nat) (x : Rs) (a : List Wr) (h : Dm x) : Dm (lpW f x a).2 := by
  cases f with
  | zero => exact h
  | succ f =>
    rw [lpW]
    cases mo x
    · exact h
    · have hb := dm_sW h
      cases vW x == wPut
      · cases vW x == wDel
        · exact .inl (by show (lpW f ((sW x).1, true) a).2.2 = true; rw [lpW_bad f _ a rfl])
        · show Dm (lpW f (sW (sW x)) _).2
          rw [lpW_bad _ _ _ (bad_sW hb)]
          exact .inl (bad_sW hb)
      · show Dm (lpW f (sT (sW (sW x))) _).2
        rw [lpW_bad _ _ _ (bad_sT (bad_sW hb))]
        exact .inl (bad_sT (bad_sW hb))
theorem abad_sW {x : Rs} (h : x.2 = true) : (sAW x).2 = true := dm_sAW (.inl h)
theorem abad_sN {x : Rs} (h : x.2 = true) : (sAN x).2 = true := dm_sAN (.inl h)
theorem abad_sT {x : Rs} (h : x.2 = true) : (sAT x).2 = true := dm_sAT (.inl h)
theorem lqW_dm (f : Nat) (x : Rs) (a : List Wr) (h : Dm x) : Dm (lqW f x a).2 := by
  cases f with
  | zero => exact h
  | succ f =>
    rw [lqW]
    cases mo x
    · exact h
    · have hb := dm_sAW h
      cases vAW x == wPut
      · cases vAW x == wDel
        · exact .inl (by show (lqW f ((sAW x).1, true) a).2.2 = true; rw [lqW_bad f _ a rfl])
        · show Dm (lqW f (sAW (sAW x)) _).2
          rw [lqW_bad _ _ _ (abad_sW hb)]
          exact .inl (abad_sW hb)
      · show Dm (lqW f (sAT (sAW (sAW x))) _).2
        rw [lqW_bad _ _ _ (abad_sT (abad_sW hb))]
        exact .inl (abad_sT (abad_sW hb))
theorem lpG_dm (f : Nat) (x : Rs) (u : List Int) (g : List W) (h : Dm x) : Dm (lpG f x u g).2 := by
  cases f with
  | zero => exact h
  | succ f =>
    rw [lpG]
    cases mo x
    · exact h
    · have hb := dm_sW h
      cases vW x == wUser && g.isEmpty
      · cases vW x == wGroup
        · exact .inl (by show (lpG f ((sW x).1, true) u g).2.2 = true; rw [lpG_bad f _ u g rfl])
        · show Dm (lpG f (sW (sW x)) _ _).2
          rw [lpG_bad _ _ _ _ (bad_sW hb)]
          exact .inl (bad_sW hb)
      · show Dm (lpG f (sN (sW x)) _ _).2
        rw [lpG_bad _ _ _ _ (bad_sN hb)]
        exact .inl (bad_sN hb)
theorem lqG_dm (f : Nat) (x : Rs) (u : List Int) (g : List W) (h : Dm x) : Dm (lqG f x u g).2 := by
  cases f with
  | zero => exact h
  | succ f =>
    rw [lqG]
    cases mo x
    · exact h
    · have hb := dm_sAW h
      cases vAW x == wUser
      · cases vAW x == wGroup
        · exact .inl (by show (lqG f ((sAW x).1, true) u g).2.2 = true; rw [lqG_bad f _ u g rfl])
        · show Dm (lqG f (sAW (sAW x)) _ _).2
          rw [lqG_bad _ _ _ _ (abad_sW hb)]
          exact .inl (abad_sW hb)
      · cases g.isEmpty
        · show Dm (lqG f (sAN ((sAW x).1, true)) _ _).2
          rw [lqG_bad _ _ _ _ (abad_sN rfl)]
          exact .inl (abad_sN rfl)
        · show Dm (lqG f (sAN (sAW x)) _ _).2
          rw [lqG_bad _ _ _ _ (abad_sN hb)]
          exact .inl (abad_sN hb)
theorem lpR_dm (f : Nat) (x : Rs) (a : List Ru) (h : Dm x) : Dm (lpR f x a).2 := by
  cases f with
  | zero => exact h
  | succ f =>
    rw [lpR]
    cases mo x
    · exact h
    · have hb := bad_sW (bad_sW (bad_sW (dm_sW h)))
      have hb2 : (((sW (sW (sW (sW x)))).1, (sW (sW (sW (sW x)))).2 || (!(vW x == wAllow) && !(vW x == wDeny))) : Rs).2 = true := by
        show ((sW (sW (sW (sW x)))).2 || _) = true
        rw [hb]; rfl
      show Dm (lpR f ((sW (sW (sW (sW x)))).1, (sW (sW (sW (sW x)))).2 || (!(vW x == wAllow) && !(vW x == wDeny))) _).2
      rw [lpR_bad _ _ _ hb2]
      exact .inl hb2
theorem lqR_dm (f : Nat) (x : Rs) (a : List Ru) (h : Dm x) : Dm (lqR f x a).2 := by
  cases f with
  | zero => exact h
  | succ f =>
    rw [lqR]
    cases mo x
    · exact h
    · have hb0 : (((sAW x).1, (sAW x).2 || !okR (vAW x)) : Rs).2 = true := by
        show ((sAW x).2 || _) = true
        rw [dm_sAW h]; rfl
      have hb := abad_sW (abad_sW (abad_sW hb0))
      show Dm (lqR f (sAW (sAW (sAW ((sAW x).1, (sAW x).2 || !okR (vAW x))))) _).2
      rw [lqR_bad _ _ _ hb]
      exact .inl hb
theorem sW_len (x : Rs) : (sW x).1.length ≤ x.1.length := rwS_le _ _
theorem sN_len (x : Rs) : (sN x).1.length ≤ x.1.length := rwS_le _ _
theorem sT_len (x : Rs) : (sT x).1.length ≤ x.1.length := ptS_le _ _
theorem nd_len {x : Rs} (hm : mo x = true) (hd : ¬ Dm (sW x)) : (sW x).1.length < x.1.length := by
  have := fl_mo (f := x.1.length) (x := x) (.inl (Nat.lt_succ_self _)) hm
  rcases this with h | h
  · exact h
  · exact absurd (.inl h) hd
theorem lW_sm : ∀ (f g : Nat) (x : Rs) (a : List Wr), x.1.length < f → x.1.length < g → Sm x x → Sm (lpW f x a).2 (lqW g x a).2 ∧ (¬ Dm (lpW f x a).2 → (lpW f x a).1 = (lqW g x a).1)
  | 0, _, _, _, h, _, _ => absurd h (Nat.not_lt_zero _)
  | _, 0, _, _, _, h, _ => absurd h (Nat.not_lt_zero _)
  | f + 1, g + 1, x, a, hf, hg, hs => by
    by_cases hdx : Dm x
    · exact ⟨.inr ⟨lpW_dm _ _ _ hdx, lqW_dm _ _ _ hdx⟩, fun h => absurd (lpW_dm _ _ _ hdx) h⟩
    · obtain ⟨s1, v1⟩ := stepW hs
      have both : Dm (lpW (f + 1) x a).2 → Dm (lqW (g + 1) x a).2 → Sm (lpW (f + 1) x a).2 (lqW (g + 1) x a).2 ∧ (¬ Dm (lpW (f + 1) x a).2 → (lpW (f + 1) x a).1 = (lqW (g + 1) x a).1) := fun h1 h2 => ⟨.inr ⟨h1, h2⟩, fun h => absurd h1 h⟩
      cases hm : mo x with
      | false =>
        have e1 : lpW (f + 1) x a = (a, x) := by rw [lpW, hm]; rfl
        have e2 : lqW (g + 1) x a = (a, x) := by rw [lqW, hm]; rfl
        rw [e1, e2]
        exact ⟨hs, fun _ => rfl⟩
      | true =>
        by_cases hd1 : Dm (sW x)
        · have hd1' : Dm (sAW x) := s1.elim (fun h => by rw [← h.1]; exact hd1) fun h => h.2
          refine both ?_ ?_
          · rw [lpW, hm]
            cases vW x == wPut
            · cases vW x == wDel
              · exact .inl (by show (lpW f ((sW x).1, true) a).2.2 = true; rw [lpW_bad f _ a rfl])
              · exact lpW_dm _ _ _ (dW hd1)
            · exact lpW_dm _ _ _ (dT (dW hd1))
          · rw [lqW, hm]
            cases vAW x == wPut
            · cases vAW x == wDel
              · exact .inl (by show (lqW g ((sAW x).1, true) a).2.2 = true; rw [lqW_bad g _ a rfl])
              · exact lqW_dm _ _ _ (dAW hd1')
            · exact lqW_dm _ _ _ (dAT (dAW hd1'))
        · have ev := v1 hd1
          have e1 := s1.good hd1
          have hl := nd_len hm hd1
          obtain ⟨s2, v2⟩ := stepW s1
          obtain ⟨s3, v3⟩ := stepT s2
          clear both
          rw [lpW, lqW, hm, ← ev]
          simp only [cond_true]
          cases hp : vW x == wPut
          · simp only [cond_false]
            cases hq : vW x == wDel
            · simp only [cond_false]
              rw [lpW_bad f _ a rfl, lqW_bad g _ a rfl]
              exact ⟨.inr ⟨.inl rfl, .inl rfl⟩, fun h => absurd (.inl rfl) h⟩
            · simp only [cond_true]
              by_cases hd2 : Dm (sW (sW x))
              · exact ⟨.inr ⟨lpW_dm _ _ _ hd2, lqW_dm _ _ _ (s2.elim (fun h => by rw [← h.1]; exact hd2) fun h => h.2)⟩, fun h => absurd (lpW_dm _ _ _ hd2) h⟩
              · have e2 := s2.good hd2
                rw [← v2 hd2, ← e2]
                have := sW_len (sW x)
                exact lW_sm f g (sW (sW x)) _ (by omega) (by omega) good_sm
          · simp only [cond_true]
            by_cases hd3 : Dm (sT (sW (sW x)))
            · exact ⟨.inr ⟨lpW_dm _ _ _ hd3, lqW_dm _ _ _ (s3.elim (fun h => by rw [← h.1]; exact hd3) fun h => h.2)⟩, fun h => absurd (lpW_dm _ _ _ hd3) h⟩
            · have e3 := s3.good hd3
              have hd2 : ¬ Dm (sW (sW x)) := fun h => hd3 (dT h)
              rw [← v3 hd3, ← v2 hd2, ← e3]
              have := sW_len (sW x)
              have := sT_len (sW (sW x))
              exact lW_sm f g (sT (sW (sW x))) _ (by omega) (by omega) good_sm
end Go.Ab
namespace Go.Proofs
open Go.RowKit

theorem oDisable (w : World) : (callFunc 122 #[]).run Tryz.prog w = .ok (.value (.tuple #[])) w := run_call_mark0 Tryz.func122 (by kernel_rfl) (by kernel_rfl) (by kernel_rfl) .disable (by kernel_rfl) w
theorem oEnable (w : World) : (callFunc 124 #[]).run Tryz.prog w = .ok (.value (.tuple #[])) w := run_call_mark0 Tryz.func124 (by kernel_rfl) (by kernel_rfl) (by kernel_rfl) .enable (by kernel_rfl) w
theorem oAcquire (a : Addr) (w : World) : (callFunc 125 #[.pointer (some a)]).run Tryz.prog w = .ok (.value (.tuple #[])) w := run_call_marked Tryz.func125 (by kernel_rfl) (by kernel_rfl) (by kernel_rfl) .acquire (by kernel_rfl) a w
theorem oRelease (a : Addr) (w : World) : (callFunc 127 #[.pointer (some a)]).run Tryz.prog w = .ok (.value (.tuple #[])) w := run_call_marked Tryz.func127 (by kernel_rfl) (by kernel_rfl) (by kernel_rfl) .releaseMerge (by kernel_rfl) a w

theorem oStore (a : Addr) (x : Value) (u : FrameMode) (w : World) (hc : w.cell? a = some x) (hz : w.frozen? a = false) :
    CallsD Tryz.prog 110 #[.pointer (some a), .bool true] u w fun e u' w' => u' = u ∧ (e = .returned (.tuple #[]) ∧ w' = w.drew.setCell a (.int .u32 1)) := by
  have hc' : w.drew.cell? a = some x := by go_simp
  have hz' : w.drew.frozen? a = false := by go_simp
  have hst := run_call_store (P := Tryz.prog) Tryz.func118 (by kernel_rfl) (by kernel_rfl) (by kernel_rfl) (by kernel_rfl) (k := .u32) (y := 1) hc' hz'
  go_enter_d Tryz.func110, Tryz.ntmps110
  go_wp2
  go_region_calls
  all_goals (go_end0; exact ⟨rfl, rfl⟩)
set_option maxRecDepth 100000 in
theorem oUnlock (a : Addr) (u : FrameMode) (w : World) (hc : w.cell? a = some (.int .i32 1)) (hz : w.frozen? a = false) :
    CallsD Tryz.prog 109 #[.pointer (some a)] u w fun e u' w' => u' = u ∧ (e = .returned (.tuple #[]) ∧ w' = w.setCell a (.int .i32 0)) := by
  have hd := oDisable
  have he := oEnable
  have hr := oRelease
  have hadd := run_call_add (P := Tryz.prog) Tryz.func128 (by kernel_rfl) (by kernel_rfl) (by kernel_rfl) .i32 (by kernel_rfl) (y := -1) (s := 0) hc hz (by simp [go_sem]; rfl)
  have hcv := run_convert_to_unsafe (P := Tryz.prog) (src := 192) (dst := 118) Tryz.underlying192 Tryz.underlying118 (by kernel_rfl) hc
  go_enter_d Tryz.func109, Tryz.ntmps109
  go_wp2
  go_end0
  go_wp2
  go_end0
  exact ⟨rfl, rfl⟩
set_option maxRecDepth 100000 in
theorem oLock (a : Addr) (w : World) (hc : w.cell? a = some (.int .i32 0)) (hz : w.frozen? a = false) :
    Calls Tryz.prog 108 #[.pointer (some a)] w fun e w' => e = .returned (.tuple #[]) ∧ w' = w.setCell a (.int .i32 1) := by
  have hd := oDisable
  have he := oEnable
  have ha := oAcquire
  have hcas := run_call_cas_hit (P := Tryz.prog) Tryz.func123 (by kernel_rfl) (by kernel_rfl) (by kernel_rfl) .i32 (by kernel_rfl) (y := 1) hc hz
  have hc' : (w.setCell a (.int .i32 1)).cell? a = some (.int .i32 1) := World.cell?_setCell_same w a _ hc
  have hcv := run_convert_to_unsafe (P := Tryz.prog) (src := 192) (dst := 118) Tryz.underlying192 Tryz.underlying118 (by kernel_rfl) hc'
  go_enter Tryz.func108, Tryz.ntmps108
  go_wp2
  first | go_end0 | (simp only [Exit.inBlock, Exit.then]; refine bodyPost_ret (results_none rfl _ _ _) rfl ?_) | refine bodyPost_ret (results_none rfl _ _ _) rfl ?_
  go_wp2
  go_end0
  exact ⟨rfl, rfl⟩

set_option maxRecDepth 100000 in
set_option maxHeartbeats 1600000 in
theorem oSlow (b : Nat) (w : World) (F : World → Prop) (h0 : w.cell? ⟨b, 0, none⟩ = some (.int .u32 0)) (h1 : w.cell? ⟨b, 1, none⟩ = some (.int .i32 0)) (f1 : w.frozen? ⟨b, 1, none⟩ = false)
    (hf : Calls Tryz.prog 79 #[.pointer (some ⟨b, 0, none⟩)] (w.setCell ⟨b, 1, none⟩ (.int .i32 1)) fun e w2 => e = .returned (.tuple #[]) ∧ F w2)
    (hF : ∀ w2, F w2 → w2.cell? ⟨b, 0, none⟩ = some (.int .u32 0) ∧ w2.cell? ⟨b, 1, none⟩ = some (.int .i32 1) ∧ w2.frozen? ⟨b, 0, none⟩ = false ∧ w2.frozen? ⟨b, 1, none⟩ = false) :
    Calls Tryz.prog 94 #[.pointer (some ⟨b, 0, none⟩), .func (.func 79) #[.pointer (some ⟨b, 0, none⟩)] #[]] w fun e w' => e = .returned (.tuple #[]) ∧ ∃ w2, F w2 ∧ w' = ((w2.drew.setCell ⟨b, 0, none⟩ (.int .u32 1)).setCell ⟨b, 1, none⟩ (.int .i32 0)) := by
  have hl := run_call_load (P := Tryz.prog) Tryz.func107 (by kernel_rfl) (by kernel_rfl) (by kernel_rfl) .u32 (by kernel_rfl) (w := w.setCell ⟨b, 1, none⟩ (.int .i32 1)) (a := ⟨b, 0, none⟩) (x := 0) ((World.cell?_setCell_other _ ⟨b, 1, none⟩ ⟨b, 0, none⟩ _ (by simp)).trans h0)
  have hnot : ∀ (x : Bool) (w : World), (Op.unary .not (.bool x)).run Tryz.prog w = .ok (.bool (!x)) w := fun _ _ => rfl
  go_enter_defers Tryz.func94, Tryz.ntmps94
  go_wp2_with (first | (go_at_call 108; refine (oLock ⟨b, 1, none⟩ _ (by go_simp) (by go_simp)).mono ?_; rintro e w' ⟨rfl, rfl⟩) | (go_at_call 79; refine hf.mono ?_; rintro e w2 ⟨rfl, hw2⟩) | (go_at_call 93; go_in))
  obtain ⟨c0, c1, z0, z1⟩ := hF _ hw2
  refine leaves_cons (f := 110) (args := #[.pointer (some ⟨b, 0, none⟩), .bool true]) (by simp) (by simp [go_sem]) ?_
  refine (oStore ⟨b, 0, none⟩ (.int .u32 0) .returning _ c0 z0).mono ?_
  rintro e u' w'' ⟨rfl, rfl, rfl⟩
  refine leaves_cons (f := 109) (args := #[.pointer (some ⟨b, 1, none⟩)]) (by simp [settle]) (by simp [go_sem]) ?_
  refine (oUnlock ⟨b, 1, none⟩ _ _ ?_ (by simp [z1])).mono ?_
  · refine (World.cell?_setCell_other _ ⟨b, 0, none⟩ ⟨b, 1, none⟩ _ (by simp)).trans ?_
    rw [World.cell?_drew]
    exact c1
  rintro e u' w'' ⟨rfl, rfl, rfl⟩
  simp [Leaves, settle, results, Tryz.results94]
  exact ⟨_, hw2, rfl⟩

set_option maxRecDepth 100000 in
set_option maxHeartbeats 1600000 in
theorem oDo (b : Nat) (w : World) (F : World → Prop) (h0 : w.cell? ⟨b, 0, none⟩ = some (.int .u32 0)) (h1 : w.cell? ⟨b, 1, none⟩ = some (.int .i32 0)) (f1 : w.frozen? ⟨b, 1, none⟩ = false)
    (hf : Calls Tryz.prog 79 #[.pointer (some ⟨b, 0, none⟩)] (w.setCell ⟨b, 1, none⟩ (.int .i32 1)) fun e w2 => e = .returned (.tuple #[]) ∧ F w2)
    (hF : ∀ w2, F w2 → w2.cell? ⟨b, 0, none⟩ = some (.int .u32 0) ∧ w2.cell? ⟨b, 1, none⟩ = some (.int .i32 1) ∧ w2.frozen? ⟨b, 0, none⟩ = false ∧ w2.frozen? ⟨b, 1, none⟩ = false) :
    Calls Tryz.prog 78 #[.pointer (some ⟨b, 0, none⟩), .func (.func 79) #[.pointer (some ⟨b, 0, none⟩)] #[]] w fun e w' => e = .returned (.tuple #[]) ∧ ∃ w2, F w2 ∧ w' = ((w2.drew.setCell ⟨b, 0, none⟩ (.int .u32 1)).setCell ⟨b, 1, none⟩ (.int .i32 0)) := by
  have hl := run_call_load (P := Tryz.prog) Tryz.func107 (by kernel_rfl) (by kernel_rfl) (by kernel_rfl) .u32 (by kernel_rfl) h0
  have hnot : ∀ (x : Bool) (w : World), (Op.unary .not (.bool x)).run Tryz.prog w = .ok (.bool (!x)) w := fun _ _ => rfl
  go_enter Tryz.func78, Tryz.ntmps78
  go_wp2_with (first | (go_at_call 94; refine (oSlow b _ F h0 h1 f1 hf hF).mono ?_; rintro e w' ⟨rfl, w2, hw2, rfl⟩) | (go_at_call 93; go_in))
  go_end0
  exact ⟨rfl, w2, hw2, rfl⟩
end Go.Proofs
namespace Go.Proofs
open Go.RowKit

def q0 : ByteArray := ⟨#[34]⟩
def q1 : ByteArray := ⟨#[92, 34]⟩
def q2 : ByteArray := ⟨#[92]⟩
def q3 : ByteArray := ⟨#[92, 92]⟩
def q4 : ByteArray := ⟨#[10]⟩
def q5 : ByteArray := ⟨#[92, 110]⟩
def q6 : ByteArray := ⟨#[9]⟩
def q7 : ByteArray := ⟨#[92, 116]⟩
theorem setRow_new (w : World) (cs cs' : Array Value) (T : TypeId) : (w.alloc (.cells cs T)).setRow w.heap.size cs' = w.alloc (.cells cs' T) := by
  unfold World.setRow World.alloc
  congr 1
  apply Array.ext
  · simp
  · intro k h1 h2
    simp only [Array.getElem_modify, Array.getElem_push]
    by_cases hk : w.heap.size = k
    · subst hk; simp
    · have : k < w.heap.size := by simp at h2; omega
      simp [hk, this]
theorem inf9 : ∃ i, Tryz.prog.info? 9 = some i ∧ i.zero = some (.string .empty) ∧ i.size = 1 ∧ i.bytes = 16 := by
  have h : (Tryz.prog.info? 9).map (fun i => (i.zero, i.size, i.bytes)) = some (some (.string .empty), 1, 16) := by kernel_rfl
  obtain ⟨j, h1, h2⟩ := Option.map_eq_some_iff.1 h
  simp only [Prod.mk.injEq] at h2
  exact ⟨j, h1, h2.1, h2.2.1, h2.2.2⟩
theorem mk4 (w : World) : (Instr.makeSlice 36 (.int .i64 0) (.int .i64 4)).run Tryz.prog w = .ok (.slice (some ⟨w.heap.size, 0, none⟩) 0 4) (w.alloc (.cells #[.string .empty, .string .empty, .string .empty, .string .empty] 9)) := by
  obtain ⟨i, h1, h2, h3, h4⟩ := inf9
  have := run_make (P := Tryz.prog) w 36 9 i (.string .empty) Tryz.underlying36 h1 h2 .i64 .i64 0 4 (by decide) (by decide) (by rw [h4]; decide) (by decide)
  rw [this, h3]
  have e : madeCells (Value.string ByteArray.empty).cells (Int.toNat 4 * 1) = #[.string .empty, .string .empty, .string .empty, .string .empty] := by
    unfold madeCells
    apply Array.toList_inj.1
    simp only [Array.toList_map, Array.toList_range]
    rfl
  rw [e]
  rfl
theorem zc168 : Tryz.zeroCells168.toList = List.replicate 257 (.slice none 0 0) := by kernel_rfl
def zL (v : Value) : List Value := (List.replicate 256 (.slice none 0 0)) ++ [v]
theorem rep_set {α : Type} (a v : α) : ∀ n, (List.replicate (n + 1) a).set n v = List.replicate n a ++ [v]
  | 0 => rfl
  | n + 1 => by rw [List.replicate_succ, List.set_cons_succ, rep_set a v n, List.replicate_succ, List.cons_append]
theorem zL_set (v : Value) : Tryz.zeroCells168.toList.set 256 v = zL v := by rw [zc168]; exact rep_set _ _ 256
theorem zL_len (v : Value) : (zL v).length = 257 := by unfold zL; rw [List.length_append, List.length_replicate]; rfl
theorem zL_one {v u : Value} (hv : u ∈ zL v) : u = .slice none 0 0 ∨ u = v := by
  unfold zL at hv
  rcases List.mem_append.1 hv with h | h
  · exact .inl (List.eq_of_mem_replicate h)
  · exact .inr (List.mem_singleton.1 h)
theorem st168 (w : World) (h : Nat) (hh : w.heap.size = h + 1) : (storeCells ⟨h + 1, 0, none⟩ (Tryz.zeroCells168.toList.set 256 (.slice (some ⟨h, 0, none⟩) 0 4))).run Tryz.prog (w.alloc (.cells Tryz.zeroCells168 168)) =
    .ok () (w.alloc (.cells (zL (.slice (some ⟨h, 0, none⟩) 0 4)).toArray 168)) := by
  rw [zL_set]
  have hsz : Tryz.zeroCells168.size = 257 := by
    have h1 := congrArg List.length zc168
    rw [List.length_replicate] at h1
    exact h1
  have h2 := run_storeCells_from (P := Tryz.prog) (h + 1) 168 (zL (.slice (some ⟨h, 0, none⟩) 0 4)) 0 Tryz.zeroCells168 (w.alloc (.cells Tryz.zeroCells168 168)) (by rw [← hh]; exact heap_alloc_new w _) (by rw [hsz, zL_len]) (by
    intro v hv
    rcases zL_one hv with rfl | rfl <;> rfl)
  rw [h2, List.take_zero, List.nil_append, ← hh]
  congr 1
  exact setRow_new w _ _ _
theorem und5 : Tryz.prog.underlying 5 = some (.int .u8) := Tryz.underlying5
theorem eql67 (W : World) (a : Option Addr) (l c : Nat) : (binOp .eql 67 (.slice a l c) (.slice none 0 0)).run Tryz.prog W = .ok (.bool a.isNone) W := by
  simp only [binOp]
  simp [run_equal_slice_nil W 67 5 a l c Tryz.underlying67]
theorem neq67 (W : World) (a : Option Addr) (l c : Nat) : (binOp .neq 67 (.slice a l c) (.slice none 0 0)).run Tryz.prog W = .ok (.bool !a.isNone) W := run_neq_slice_nil W 67 5 a l c Tryz.underlying67
theorem cv1 (W : World) (m : Nat) (x : UInt8) (h : W.cell? ⟨m, 0, none⟩ = some (.int .u8 x.toNat)) : (convert 67 9 (.slice (some ⟨m, 0, none⟩) 1 1)).run Tryz.prog W = .ok (.string ⟨#[x]⟩) W := by
  have := run_convert_bytes_arg (P := Tryz.prog) W 67 5 Tryz.underlying67 und5 m 0 1 1 [(x.toNat : Int)] rfl (fun i hi => by
    obtain rfl : i = 0 := by omega
    exact h) 9 Tryz.underlying9
  rw [this]
  have e : strOfNums [(x.toNat : Int)] = ⟨#[x]⟩ := by
    unfold strOfNums
    simp
  rw [e]
theorem cv2 (W : World) (s : ByteArray) : (convert 9 67 (.string s)).run Tryz.prog W = .ok (.slice (some ⟨W.heap.size, 0, none⟩) s.size (grownCap W s.size 0 5))
      (W.drew.alloc (.cells (bytesRow s (grownCap W s.size 0 5)) 5 ((bytesRow s (grownCap W s.size 0 5)).size, (bytesRow s (grownCap W s.size 0 5)).size + 1))) := run_bytes_of_string W 9 67 5 s Tryz.underlying9 Tryz.underlying67 und5
theorem app9 (W : World) (h n m : Nat) (x : ByteArray) (old : Value) (h1 : W.cell? ⟨h, n, none⟩ = some old) (h2 : W.frozen? ⟨h, n, none⟩ = false) (h3 : W.cell? ⟨m, 0, none⟩ = some (.string x)) (h4 : n < 4) :
    (Builtin.append_ #[36, 36] 36 #[.slice (some ⟨h, 0, none⟩) n 4, .slice (some ⟨m, 0, none⟩) 1 1]).run Tryz.prog W = .ok (.slice (some ⟨h, 0, none⟩) (n + 1) 4) (W.setCell ⟨h, n, none⟩ (.string x)) := by
  obtain ⟨i, i1, i2, i3, i4⟩ := inf9
  have hf := run_firstCells_some (P := Tryz.prog) W i.size 1 ⟨m, 0, none⟩ 1 1 [.string x] (by rw [i3]; rfl) (fun j v hj => by
    match j, hj with
    | 0, hj =>
      simp at hj
      subst hj
      simpa [Addr.add] using h3)
  have hst := run_storeCells_cells (P := Tryz.prog) h n [.string x] 0 W (fun j hj => by
    obtain rfl : j = 0 := by simpa using hj
    simp [h1]) (fun j hj => by
    obtain rfl : j = 0 := by simpa using hj
    simpa using h2) (by intro v hv; simp at hv; subst hv; rfl)
  have hr : n + 1 ≤ 4 := by omega
  simp only [Nat.add_zero, World.setCells] at hst
  rw [i3] at hf
  simp [Builtin.append_, run_underlying Tryz.underlying36, sizeOf, typeInfo, i1, Builtin.lenOf, hr, hf, Addr.add_lit, i3, hst]
theorem zs_o {Z Z1 : Array Value} {a b v : Value} {i : Nat} (hZ : (Z.setIfInBounds 256 a).setIfInBounds i b = Z1) (j : Nat) (h0 : ∀ h, (Z[j]'h) = v) (hj : j ≠ 256) (hi : j ≠ i) : ∀ h, (Z1[j]'h) = v := by
  intro h
  subst hZ
  simp only [Array.size_setIfInBounds] at h
  rw [Array.getElem_setIfInBounds, if_neg (Ne.symm hi), Array.getElem_setIfInBounds, if_neg (Ne.symm hj)]
  exact h0 h
  all_goals simpa using h
theorem zs_i {Z Z1 : Array Value} {a b : Value} {i : Nat} (hZ : (Z.setIfInBounds 256 a).setIfInBounds i b = Z1) : ∀ h, (Z1[i]'h) = b := by
  intro h
  subst hZ
  simp only [Array.size_setIfInBounds] at h
  rw [Array.getElem_setIfInBounds, if_pos rfl]
  simpa using h
theorem zs_n {Z Z1 : Array Value} {a b : Value} {i : Nat} (hZ : (Z.setIfInBounds 256 a).setIfInBounds i b = Z1) (hi : i ≠ 256) : ∀ h, (Z1[256]'h) = a := by
  intro h
  subst hZ
  simp only [Array.size_setIfInBounds] at h
  rw [Array.getElem_setIfInBounds, if_neg hi, Array.getElem_setIfInBounds, if_pos rfl]
  all_goals simpa using h
theorem zs_s {Z Z1 : Array Value} {a b : Value} {i : Nat} (hZ : (Z.setIfInBounds 256 a).setIfInBounds i b = Z1) (h : Z.size = 257) : Z1.size = 257 := by
  subst hZ
  simpa using h
theorem zfin {Z Z1 Z2 Z3 Z4 : Array Value} {a1 a2 a3 a4 b1 b2 b3 b4 : Value} (hs : Z.size = 257) (hz : ∀ c, c < 256 → Z[c]? = some (.slice none 0 0)) (hA : (Z.setIfInBounds 256 a1).setIfInBounds 9 b1 = Z1) (hB : (Z1.setIfInBounds 256 a2).setIfInBounds 10 b2 = Z2)
    (hC : (Z2.setIfInBounds 256 a3).setIfInBounds 92 b3 = Z3) (hD : (Z3.setIfInBounds 256 a4).setIfInBounds 34 b4 = Z4) :
    (∀ c, c < 256 → c ≠ 9 → c ≠ 10 → c ≠ 92 → c ≠ 34 → Z4[c]? = some (.slice none 0 0)) ∧ Z4[9]? = some b1 ∧ Z4[10]? = some b2 ∧ Z4[92]? = some b3 ∧ Z4[34]? = some b4 ∧ Z4[256]? = some a4 := by
  subst hA hB hC hD
  refine ⟨fun c hc h1 h2 h3 h4 => ?_, ?_, ?_, ?_, ?_, ?_⟩
  · have := hz c hc
    simp [Ne.symm h1, Ne.symm h2, Ne.symm h3, Ne.symm h4, this, show ¬ 256 = c by omega]
  all_goals simp [hs]
theorem br0 (x y : UInt8) (c : Nat) : (bytesRow ⟨#[x, y]⟩ c)[0]? = some (.int .u8 x.toNat) := by
  unfold bytesRow
  rw [Array.getElem?_append_left (by simp), Array.getElem?_map]
  rfl
theorem br1 (x y : UInt8) (c : Nat) : (bytesRow ⟨#[x, y]⟩ c)[1]? = some (.int .u8 y.toNat) := by
  unfold bytesRow
  rw [Array.getElem?_append_left (by simp), Array.getElem?_map]
  rfl
def al (w : World) (os : List Obj) : World := os.foldl World.alloc w
theorem al_size : ∀ (os : List Obj) (w : World), (al w os).heap.size = w.heap.size + os.length
  | [], w => rfl
  | o :: os, w => by
    show (al (w.alloc o) os).heap.size = _
    rw [al_size os (w.alloc o)]
    simp; omega
theorem al_below : ∀ (os : List Obj) (w : World), Below w.heap.size w (al w os)
  | [], w => Below.refl _ _
  | o :: os, w => (Below.alloc (Below.refl _ w) (Nat.le_refl _) o).trans ((al_below os (w.alloc o)).mono (by simp))
theorem al_at : ∀ (os : List Obj) (w : World) (i : Nat) (o : Obj), os[i]? = some o → (al w os).heap[w.heap.size + i]? = some o
  | [], _, _, _, h => by cases h
  | o :: os, w, 0, o', h => by
    have e : o = o' := by simpa using h
    subst e
    exact ((al_below os (w.alloc o)).block w.heap.size (by simp)).trans (heap_alloc_new w o)
  | o :: os, w, i + 1, o', h => by
    have := al_at os (w.alloc o) i o' h
    have e : (w.alloc o).heap.size + i = w.heap.size + (i + 1) := by simp; omega
    rw [e] at this
    exact this
theorem al_cell {os : List Obj} {w : World} {c : Array Value} {t : TypeId} {fr : Nat × Nat} (i j : Nat) (h : os[i]? = some (.cells c t fr)) : (al w os).cell? ⟨w.heap.size + i, j, none⟩ = c[j]? := cell_of_row _ _ _ _ _ _ (al_at os w i _ h)
def escN (c : Nat) : Nat := if c = 9 then 116 else if c = 10 then 110 else c
def isE (c : Nat) : Prop := c = 9 ∨ c = 10 ∨ c = 92 ∨ c = 34
instance (c : Nat) : Decidable (isE c) := by unfold isE; infer_instance
structure Repl (w : World) (B r : Nat) : Prop where
  row : ∃ h, B ≤ h ∧ w.cell? ⟨r, 256, none⟩ = some (.slice (some ⟨h, 0, none⟩) 4 4) ∧ w.cell? ⟨h, 0, none⟩ = some (.string ⟨#[9]⟩) ∧ w.cell? ⟨h, 1, none⟩ = some (.string ⟨#[10]⟩) ∧ w.cell? ⟨h, 2, none⟩ = some (.string ⟨#[92]⟩) ∧ w.cell? ⟨h, 3, none⟩ = some (.string ⟨#[34]⟩)
  no : ∀ c, c < 256 → ¬ isE c → w.cell? ⟨r, c, none⟩ = some (.slice none 0 0)
  yes : ∀ c, isE c → ∃ k cap, B ≤ k ∧ w.cell? ⟨r, c, none⟩ = some (.slice (some ⟨k, 0, none⟩) 2 cap) ∧ w.cell? ⟨k, 0, none⟩ = some (.int .u8 92) ∧ w.cell? ⟨k, 1, none⟩ = some (.int .u8 (escN c))
  le : B ≤ r
theorem Repl.drew {w : World} {B r : Nat} (h : Repl w B r) : Repl w.drew B r := ⟨h.row, h.no, h.yes, h.le⟩
def bO (x : UInt8) (c : Nat) : Obj := .cells (bytesRow ⟨#[92, x]⟩ c) 5 ((bytesRow ⟨#[92, x]⟩ c).size, (bytesRow ⟨#[92, x]⟩ c).size + 1)
def newL (Z : Array Value) (c9 c10 c92 c34 : Nat) : List Obj := [.cells #[.string ⟨#[9]⟩, .string ⟨#[10]⟩, .string ⟨#[92]⟩, .string ⟨#[34]⟩] 9, .cells Z 168, .cells #[.int .u8 9] 5, .cells #[.string ⟨#[9]⟩] 9, bO 116 c9, .cells #[.int .u8 10] 5, .cells #[.string ⟨#[10]⟩] 9, bO 110 c10,
  .cells #[.int .u8 92] 5, .cells #[.string ⟨#[92]⟩] 9, bO 92 c92, .cells #[.int .u8 34] 5, .cells #[.string ⟨#[34]⟩] 9, bO 34 c34]
theorem rFin (w : World) (Z : Array Value) (c9 c10 c92 c34 : Nat) (zn : ∀ c, c < 256 → c ≠ 9 → c ≠ 10 → c ≠ 92 → c ≠ 34 → Z[c]? = some (.slice none 0 0)) (z9 : Z[9]? = some (.slice (some ⟨w.heap.size + 4, 0, none⟩) 2 c9)) (z10 : Z[10]? = some (.slice (some ⟨w.heap.size + 7, 0, none⟩) 2 c10))
    (z92 : Z[92]? = some (.slice (some ⟨w.heap.size + 10, 0, none⟩) 2 c92)) (z34 : Z[34]? = some (.slice (some ⟨w.heap.size + 13, 0, none⟩) 2 c34)) (z256 : Z[256]? = some (.slice (some ⟨w.heap.size, 0, none⟩) 4 4)) :
    Repl (al w (newL Z c9 c10 c92 c34)) w.heap.size (w.heap.size + 1) ∧ Below w.heap.size w (al w (newL Z c9 c10 c92 c34)) := by
  have r0 : ∀ j, (al w (newL Z c9 c10 c92 c34)).cell? ⟨w.heap.size, j, none⟩ = (#[Value.string ⟨#[9]⟩, .string ⟨#[10]⟩, .string ⟨#[92]⟩, .string ⟨#[34]⟩] : Array Value)[j]? := fun j => al_cell (os := newL Z c9 c10 c92 c34) (fr := (0, 0)) (t := 9) 0 j rfl
  have r1 : ∀ j, (al w (newL Z c9 c10 c92 c34)).cell? ⟨w.heap.size + 1, j, none⟩ = Z[j]? := fun j => al_cell (os := newL Z c9 c10 c92 c34) (fr := (0, 0)) (t := 168) 1 j rfl
  have r4 : ∀ j, (al w (newL Z c9 c10 c92 c34)).cell? ⟨w.heap.size + 4, j, none⟩ = (bytesRow ⟨#[92, 116]⟩ c9)[j]? := fun j => al_cell (os := newL Z c9 c10 c92 c34) 4 j (show _ = some (bO 116 c9) from rfl)
  have r7 : ∀ j, (al w (newL Z c9 c10 c92 c34)).cell? ⟨w.heap.size + 7, j, none⟩ = (bytesRow ⟨#[92, 110]⟩ c10)[j]? := fun j => al_cell (os := newL Z c9 c10 c92 c34) 7 j (show _ = some (bO 110 c10) from rfl)
  have r10 : ∀ j, (al w (newL Z c9 c10 c92 c34)).cell? ⟨w.heap.size + 10, j, none⟩ = (bytesRow ⟨#[92, 92]⟩ c92)[j]? := fun j => al_cell (os := newL Z c9 c10 c92 c34) 10 j (show _ = some (bO 92 c92) from rfl)
  have r13 : ∀ j, (al w (newL Z c9 c10 c92 c34)).cell? ⟨w.heap.size + 13, j, none⟩ = (bytesRow ⟨#[92, 34]⟩ c34)[j]? := fun j => al_cell (os := newL Z c9 c10 c92 c34) 13 j (show _ = some (bO 34 c34) from rfl)
  refine ⟨⟨⟨w.heap.size, Nat.le_refl _, (r1 256).trans z256, r0 0, r0 1, r0 2, r0 3⟩, fun c hc hn => ?_, fun c hc => ?_, Nat.le_succ _⟩, al_below _ w⟩
  · unfold isE at hn
    exact (r1 c).trans (zn c hc (by omega) (by omega) (by omega) (by omega))
  · rcases hc with rfl | rfl | rfl | rfl
    · exact ⟨w.heap.size + 4, c9, Nat.le_add_right _ _, (r1 9).trans z9, (r4 0).trans (br0 92 116 c9), (r4 1).trans (br1 92 116 c9)⟩
    · exact ⟨w.heap.size + 7, c10, Nat.le_add_right _ _, (r1 10).trans z10, (r7 0).trans (br0 92 110 c10), (r7 1).trans (br1 92 110 c10)⟩
    · exact ⟨w.heap.size + 10, c92, Nat.le_add_right _ _, (r1 92).trans z92, (r10 0).trans (br0 92 92 c92), (r10 1).trans (br1 92 92 c92)⟩
    · exact ⟨w.heap.size + 13, c34, Nat.le_add_right _ _, (r1 34).trans z34, (r13 0).trans (br0 92 34 c34), (r13 1).trans (br1 92 34 c34)⟩
set_option maxRecDepth 100000 in
set_option maxHeartbeats 1600000 in
theorem rBuild (b g cap : Nat) (w : World) (h4 : w.cell? ⟨b, 4, none⟩ = some (.slice (some ⟨g, 0, none⟩) 8 cap))
    (g0 : w.cell? ⟨g, 0, none⟩ = some (.string ⟨#[34]⟩)) (g1 : w.cell? ⟨g, 1, none⟩ = some (.string ⟨#[92, 34]⟩)) (g2 : w.cell? ⟨g, 2, none⟩ = some (.string ⟨#[92]⟩)) (g3 : w.cell? ⟨g, 3, none⟩ = some (.string ⟨#[92, 92]⟩))
    (g4 : w.cell? ⟨g, 4, none⟩ = some (.string ⟨#[10]⟩)) (g5 : w.cell? ⟨g, 5, none⟩ = some (.string ⟨#[92, 110]⟩)) (g6 : w.cell? ⟨g, 6, none⟩ = some (.string ⟨#[9]⟩)) (g7 : w.cell? ⟨g, 7, none⟩ = some (.string ⟨#[92, 116]⟩)) :
    Calls Tryz.prog 95 #[.pointer (some ⟨b, 0, none⟩)] w fun e w' => (∃ r, e = .returned (.iface 169 (.pointer (some ⟨r, 0, none⟩))) ∧ Repl w' w.heap.size r) ∧ Below w.heap.size w w' := by
  have hmk := mk4
  have hst := fun o => st168 (w.alloc o) w.heap.size (by simp)
  go_enter Tryz.func95, Tryz.ntmps95
  go_wp2
  refine wp_loop_rounds 5 ?_
  rw [rounds_succ]
  go_wp2
  rw [rounds_succ]
  go_wp2
  rw [rounds_succ]
  go_wp2
  rw [rounds_succ]
  go_wp2
  rw [rounds_succ]
  go_wp2
  generalize hZ : (zL (Value.slice (some { block := w.heap.size, off := 0 }) 0 4)).toArray = Z
  have z34 : ∀ h, (Z[34]'h) = .slice none 0 0 := by rw [← hZ]; intro h; rfl
  have z92 : ∀ h, (Z[92]'h) = .slice none 0 0 := by rw [← hZ]; intro h; rfl
  have z10 : ∀ h, (Z[10]'h) = .slice none 0 0 := by rw [← hZ]; intro h; rfl
  have z9 : ∀ h, (Z[9]'h) = .slice none 0 0 := by rw [← hZ]; intro h; rfl
  have z256 : ∀ h, (Z[256]'h) = Value.slice (some { block := w.heap.size, off := 0 }) 0 4 := by rw [← hZ]; intro h; rfl
  have hsz : Z.size = 257 := by rw [← hZ]; rfl
  have hgl : g < w.heap.size := by
    have := block_lt_of_cell g0
    exact this
  have hz0 : Hid (∀ c, c < 256 → Z[c]? = some (.slice none 0 0)) := by
    intro c hc
    rw [← hZ]
    simp only [zL, List.getElem?_toArray]
    rw [List.getElem?_append_left (by rw [List.length_replicate]; exact hc), List.getElem?_replicate, if_pos hc]
  clear hZ hst hmk
  have hsl : ∀ b : Nat, g < b → g < b + 1 := fun b h => Nat.lt_succ_of_lt h
  have hg1 := hsl _ hgl
  have hg2 := hsl _ hg1
  have hg3 := hsl _ hg2
  have hg4 := hsl _ hg3
  have hg5 := hsl _ hg4
  have hg6 := hsl _ hg5
  have hg7 := hsl _ hg6
  have hg8 := hsl _ hg7
  have hg9 := hsl _ hg8
  have hg10 := hsl _ hg9
  have hg11 := hsl _ hg10
  have hg12 := hsl _ hg11
  have hg13 := hsl _ hg12
  have hg14 := hsl _ hg13
  have hg15 := hsl _ hg14
  have hg16 := hsl _ hg15
  have hg17 := hsl _ hg16
  clear hsl
  have l1 := eql67
  have l29 : ∀ W m, World.cell? W ⟨m, 0, none⟩ = some (.int .u8 9) → (convert 67 9 (.slice (some ⟨m, 0, none⟩) 1 1)).run Tryz.prog W = .ok (.string ⟨#[9]⟩) W := fun W m => cv1 W m 9
  have l210 : ∀ W m, World.cell? W ⟨m, 0, none⟩ = some (.int .u8 10) → (convert 67 9 (.slice (some ⟨m, 0, none⟩) 1 1)).run Tryz.prog W = .ok (.string ⟨#[10]⟩) W := fun W m => cv1 W m 10
  have l292 : ∀ W m, World.cell? W ⟨m, 0, none⟩ = some (.int .u8 92) → (convert 67 9 (.slice (some ⟨m, 0, none⟩) 1 1)).run Tryz.prog W = .ok (.string ⟨#[92]⟩) W := fun W m => cv1 W m 92
  have l234 : ∀ W m, World.cell? W ⟨m, 0, none⟩ = some (.int .u8 34) → (convert 67 9 (.slice (some ⟨m, 0, none⟩) 1 1)).run Tryz.prog W = .ok (.string ⟨#[34]⟩) W := fun W m => cv1 W m 34
  have l3 := cv2
  have l49 := fun W h n m => app9 W h n m ⟨#[9]⟩ (.string .empty)
  have l410 := fun W h n m => app9 W h n m ⟨#[10]⟩ (.string .empty)
  have l492 := fun W h n m => app9 W h n m ⟨#[92]⟩ (.string .empty)
  have l434 := fun W h n m => app9 W h n m ⟨#[34]⟩ (.string .empty)
  have e9 : ∀ h, (((⟨#[9]⟩ : ByteArray)[0]'h).toNat) = 9 := fun _ => rfl
  have e10 : ∀ h, (((⟨#[10]⟩ : ByteArray)[0]'h).toNat) = 10 := fun _ => rfl
  have e92 : ∀ h, (((⟨#[92]⟩ : ByteArray)[0]'h).toNat) = 92 := fun _ => rfl
  have e34 : ∀ h, (((⟨#[34]⟩ : ByteArray)[0]'h).toNat) = 34 := fun _ => rfl
  refine wp_loop_rounds 5 ?_
  rw [rounds_succ]
  go_wp2
  generalize grownCap _ 2 0 5 = c9
  generalize hA : (Z.setIfInBounds 256 _).setIfInBounds 9 _ = Z1
  have y34 := zs_o hA 34 z34 (by decide) (by decide)
  have y92 := zs_o hA 92 z92 (by decide) (by decide)
  have y10 := zs_o hA 10 z10 (by decide) (by decide)
  have y256 := zs_n hA (by decide)
  have ysz := zs_s hA hsz
  have hA' : Hid ((Z.setIfInBounds 256 _).setIfInBounds 9 _ = Z1) := hA
  clear hA
  rw [rounds_succ]
  go_wp2
  generalize grownCap _ 2 0 5 = c10
  generalize hB : (Z1.setIfInBounds 256 _).setIfInBounds 10 _ = Z2
  have x34 := zs_o hB 34 y34 (by decide) (by decide)
  have x92 := zs_o hB 92 y92 (by decide) (by decide)
  have x256 := zs_n hB (by decide)
  have xsz := zs_s hB ysz
  have hB' : Hid ((Z1.setIfInBounds 256 _).setIfInBounds 10 _ = Z2) := hB
  clear hB
  rw [rounds_succ]
  go_wp2
  generalize grownCap _ 2 0 5 = c92
  generalize hC : (Z2.setIfInBounds 256 _).setIfInBounds 92 _ = Z3
  have u34 := zs_o hC 34 x34 (by decide) (by decide)
  have u256 := zs_n hC (by decide)
  have usz := zs_s hC xsz
  have hC' : Hid ((Z2.setIfInBounds 256 _).setIfInBounds 92 _ = Z3) := hC
  clear hC
  rw [rounds_succ]
  go_wp2
  generalize grownCap _ 2 0 5 = c34
  generalize hD : (Z3.setIfInBounds 256 _).setIfInBounds 34 _ = Z4
  have v256 := zs_n hD (by decide)
  have vsz := zs_s hD usz
  have hD' : Hid ((Z3.setIfInBounds 256 _).setIfInBounds 34 _ = Z4) := hD
  clear hD
  rw [rounds_succ]
  go_wp2
  clear l1 l3 l29 l210 l292 l234 l49 l410 l492 l434
  clear hg1 hg2 hg3 hg4 hg5 hg6 hg7 hg8 hg9 hg10 hg11 hg12 hg13 hg14 hg15 hg16 hg17
  go_ret
  obtain ⟨zn, zz9, zz10, zz92, zz34, zz256⟩ := zfin hsz hz0 hA' hB' hC' hD'
  obtain ⟨f1, f2⟩ := rFin w Z4 c9 c10 c92 c34 zn zz9 zz10 zz92 zz34 zz256
  exact ⟨⟨w.heap.size + 1, rfl, f1.drew.drew.drew.drew⟩, f2.drew.drew.drew.drew⟩
end Go.Proofs
namespace Go.Proofs
open Go.RowKit

structure Kept (B b : Nat) (w w' : World) : Prop where
  os : w'.os = w.os
  tape : w'.tape = w.tape
  output : w'.output = w.output
  size : w.heap.size ≤ w'.heap.size
  block : ∀ k, k < B → k ≠ b → w'.heap[k]? = w.heap[k]?
theorem Repl.setCell {w : World} {B r b i : Nat} {v : Value} (h : Repl w B r) (hb : b < B) : Repl (w.setCell ⟨b, i, none⟩ v) B r := by
  have o : ∀ k j, B ≤ k → (w.setCell ⟨b, i, none⟩ v).cell? ⟨k, j, none⟩ = w.cell? ⟨k, j, none⟩ := fun k j hk => World.cell?_setCell_other _ _ _ _ (fun e => by have h := congrArg Addr.block e; have h : b = k := h; omega)
  obtain ⟨hh, h1, h2, h3, h4, h5, h6⟩ := h.row
  refine ⟨⟨hh, h1, ?_, ?_, ?_, ?_, ?_⟩, fun c hc hn => ?_, fun c hc => ?_, h.le⟩
  · rw [o r _ h.le]; exact h2
  · rw [o hh _ h1]; exact h3
  · rw [o hh _ h1]; exact h4
  · rw [o hh _ h1]; exact h5
  · rw [o hh _ h1]; exact h6
  · rw [o r _ h.le]; exact h.no c hc hn
  · obtain ⟨k, cap, k1, k2, k3, k4⟩ := h.yes c hc
    exact ⟨k, cap, k1, by rw [o r _ h.le]; exact k2, by rw [o k _ k1]; exact k3, by rw [o k _ k1]; exact k4⟩
def orig : List ByteArray := [⟨#[34]⟩, ⟨#[92, 34]⟩, ⟨#[92]⟩, ⟨#[92, 92]⟩, ⟨#[10]⟩, ⟨#[92, 110]⟩, ⟨#[9]⟩, ⟨#[92, 116]⟩]
def Eight (w : World) (g : Nat) : Prop := ∀ (j : Nat) x, orig[j]? = some x → w.cell? ⟨g, j, none⟩ = some (.string x)
def onceCells (d l : Int) (x2 x3 x4 : Value) : Array Value := #[.int .u32 d, .int .i32 l, x2, x3, x4]
set_option maxRecDepth 100000 in
set_option maxHeartbeats 1600000 in
theorem rOnce (b g cap : Nat) (x2 x3 : Value) (w : World) (hb : w.heap[b]? = some (.cells (onceCells 0 1 x2 x3 (.slice (some ⟨g, 0, none⟩) 8 cap)) 135 (0, 0))) (hg : Eight w g) :
    Calls Tryz.prog 79 #[.pointer (some ⟨b, 0, none⟩)] w fun e W => e = .returned (.tuple #[]) ∧
      ∃ r, W.heap[b]? = some (.cells (onceCells 0 1 x2 (.iface 169 (.pointer (some ⟨r, 0, none⟩))) (.slice none 0 0)) 135 (0, 0)) ∧ Repl W w.heap.size r ∧ Kept w.heap.size b w W := by
  have hlt : b < w.heap.size := (Array.getElem?_eq_some_iff.1 hb).1
  have h4 : w.cell? ⟨b, 4, none⟩ = some (.slice (some ⟨g, 0, none⟩) 8 cap) := cell_of_row _ _ _ _ _ _ hb
  have key : ∀ (W : World) (r : Nat), Repl W w.heap.size r → Below w.heap.size w W → ∃ r', ((W.setCell ⟨b, 3, none⟩ (.iface 169 (.pointer (some ⟨r, 0, none⟩)))).setCell ⟨b, 4, none⟩ (.slice none 0 0)).heap[b]? = some (.cells (onceCells 0 1 x2 (.iface 169 (.pointer (some ⟨r', 0, none⟩))) (.slice none 0 0)) 135 (0, 0)) ∧
      Repl ((W.setCell ⟨b, 3, none⟩ (.iface 169 (.pointer (some ⟨r, 0, none⟩)))).setCell ⟨b, 4, none⟩ (.slice none 0 0)) w.heap.size r' ∧ Kept w.heap.size b w ((W.setCell ⟨b, 3, none⟩ (.iface 169 (.pointer (some ⟨r, 0, none⟩)))).setCell ⟨b, 4, none⟩ (.slice none 0 0)) := fun W r hR hB => by
    have hb' := (hB.block b hlt).trans hb
    have e1 := heap_setCell_same W b 3 _ 135 (.iface 169 (.pointer (some ⟨r, 0, none⟩))) hb'
    have e2 := heap_setCell_same _ b 4 _ 135 (.slice none 0 0) e1
    refine ⟨r, e2, (hR.setCell hlt).setCell hlt, hB.os, hB.tape, hB.output, by simpa using hB.size, fun k hk hne => ?_⟩
    rw [heap_setCell_other _ _ _ _ hne, heap_setCell_other _ _ _ _ hne]
    exact hB.block k hk
  go_enter Tryz.func79, Tryz.ntmps79
  go_wp2_with (go_at_call 95; refine (rBuild b g cap _ h4 (hg 0 _ rfl) (hg 1 _ rfl) (hg 2 _ rfl) (hg 3 _ rfl) (hg 4 _ rfl) (hg 5 _ rfl) (hg 6 _ rfl) (hg 7 _ rfl)).mono ?_; rintro e W ⟨⟨r, rfl, hR⟩, hB⟩; have q3 : W.cell? ⟨b, 3, none⟩ = some x3 := (hB.cell (p := ⟨b, 3, none⟩) hlt).trans (cell_of_row _ _ _ _ _ _ hb); have q4 : W.cell? ⟨b, 4, none⟩ = some (.slice (some ⟨g, 0, none⟩) 8 cap) := (hB.cell (p := ⟨b, 4, none⟩) hlt).trans h4; have z3 : W.frozen? ⟨b, 3, none⟩ = false := (hB.frozen (p := ⟨b, 3, none⟩) hlt).trans (frozen_of_row _ _ _ _ _ hb); have z4 : W.frozen? ⟨b, 4, none⟩ = false := (hB.frozen (p := ⟨b, 4, none⟩) hlt).trans (frozen_of_row _ _ _ _ _ hb))
  go_end0
  exact ⟨rfl, key W r hR hB⟩
end Go.Proofs
namespace Go.Proofs
open Go.RowKit

def isEb (c : UInt8) : Bool := decide (isE c.toNat)
def qE (c : UInt8) : List UInt8 := if isE c.toNat then [92, UInt8.ofNat (escN c.toNat)] else [c]
def qB (l : List UInt8) : List UInt8 := l.flatMap qE
theorem qE_len (c : UInt8) : (qE c).length = 1 + (if isEb c then 1 else 0) := by
  unfold qE isEb
  by_cases h : isE c.toNat <;> simp [h]
theorem qB_len : ∀ l : List UInt8, (qB l).length = l.length + l.countP isEb
  | [] => rfl
  | c :: l => by
    have ih := qB_len l
    unfold qB at ih ⊢
    rw [List.flatMap_cons, List.length_append, ih, qE_len, List.length_cons, List.countP_cons]
    split <;> omega
theorem qB_same : ∀ l : List UInt8, l.countP isEb = 0 → qB l = l
  | [], _ => rfl
  | c :: l, h => by
    rw [List.countP_cons] at h
    have h1 : isEb c = false := by cases hc : isEb c <;> simp_all
    have ih := qB_same l (by omega)
    unfold qB at ih ⊢
    rw [List.flatMap_cons, ih]
    unfold qE
    rw [if_neg (of_decide_eq_false h1)]
    rfl
def nE (s : ByteArray) (k : Nat) : Nat := (s.data.toList.take k).countP isEb
theorem nE_succ (s : ByteArray) (k : Nat) (h : k < s.size) : nE s (k + 1) = nE s k + (if isE (s[k]'h).toNat then 1 else 0) := by
  unfold nE
  have hl : s.data.toList.length = s.size := by simp
  rw [List.take_succ_eq_append_getElem (by rw [hl]; exact h), List.countP_append, List.countP_singleton]
  congr 1
  have : s.data.toList[k]'(by rw [hl]; exact h) = s[k]'h := by simp [ByteArray.getElem_eq_getElem_data]
  rw [this]
  unfold isEb
  simp
theorem nE_le (s : ByteArray) (k : Nat) : nE s k ≤ s.size := by
  unfold nE
  have h1 := List.countP_le_length (p := isEb) (l := s.data.toList.take k)
  have h2 : (s.data.toList.take k).length ≤ s.size := by rw [List.length_take]; simp; omega
  omega
theorem inf5 : ∃ i, Tryz.prog.info? 5 = some i ∧ i.zero = some (.int .u8 0) ∧ i.size = 1 ∧ i.bytes = 1 := by
  have h : (Tryz.prog.info? 5).map (fun i => (i.zero, i.size, i.bytes)) = some (some (.int .u8 0), 1, 1) := by kernel_rfl
  obtain ⟨j, h1, h2⟩ := Option.map_eq_some_iff.1 h
  simp only [Prod.mk.injEq] at h2
  exact ⟨j, h1, h2.1, h2.2.1, h2.2.2⟩
theorem mkN (N : Nat) (h : N ≤ 4000000) (W : World) : (Instr.makeSlice 67 (.int .i64 N) (.int .i64 N)).run Tryz.prog W = .ok (.slice (some ⟨W.heap.size, 0, none⟩) N N) (W.alloc (.cells (List.replicate N (.int .u8 0)).toArray 5)) := by
  obtain ⟨i, h1, h2, h3, h4⟩ := inf5
  have := run_make (P := Tryz.prog) W 67 5 i (.int .u8 0) Tryz.underlying67 h1 h2 .i64 .i64 N N (by omega) (by omega) (by rw [h4]; omega) (by omega)
  rw [this, h3]
  have e : madeCells (Value.int .u8 0).cells (Int.toNat (N : Int) * 1) = (List.replicate N (Value.int .u8 0)).toArray := by
    unfold madeCells
    apply Array.toList_inj.1
    simp only [Array.toList_map, Array.toList_range, Nat.mul_one, Int.toNat_natCast]
    apply List.ext_getElem
    · simp
    · intro j h1 h2
      simp only [List.getElem_map, List.getElem_replicate]
      have : ∀ q, (Value.int .u8 0).cells[q % (Value.int .u8 0).cells.size]! = .int .u8 0 := fun q => by
        have e : (Value.int .u8 0).cells = #[.int .u8 0] := rfl
        simp only [e]
        simp [Nat.mod_one]
      exact this _
  rw [e, Int.toNat_natCast]
def u8v (b : UInt8) : Value := .int .u8 b.toNat
def Qk (s : ByteArray) (k : Nat) : List Value := (qB (s.data.toList.take k)).map u8v ++ List.replicate (s.size + nE s s.size - (k + nE s k)) (.int .u8 0)
theorem nE_mono (s : ByteArray) {i k : Nat} (h : i ≤ k) : nE s i ≤ nE s k := by
  unfold nE
  have : s.data.toList.take i = (s.data.toList.take k).take i := by rw [List.take_take, Nat.min_eq_left h]
  rw [this]
  exact (List.take_sublist _ _).countP_le
theorem tk_len (s : ByteArray) {k : Nat} (h : k ≤ s.size) : (qB (s.data.toList.take k)).length = k + nE s k := by
  rw [qB_len, List.length_take]
  have : s.data.toList.length = s.size := by simp
  rw [this, Nat.min_eq_left h]; rfl
theorem tk_succ (s : ByteArray) {k : Nat} (h : k < s.size) : qB (s.data.toList.take (k + 1)) = qB (s.data.toList.take k) ++ qE (s[k]'h) := by
  have hl : s.data.toList.length = s.size := by simp
  rw [List.take_succ_eq_append_getElem (by rw [hl]; exact h)]
  have : s.data.toList[k]'(by rw [hl]; exact h) = s[k]'h := by simp [ByteArray.getElem_eq_getElem_data]
  rw [this]
  unfold qB
  rw [List.flatMap_append, List.flatMap_singleton]
theorem Qk_len (s : ByteArray) {k : Nat} (h : k ≤ s.size) : (Qk s k).length = s.size + nE s s.size := by
  have := nE_mono s h
  unfold Qk
  rw [List.length_append, List.length_map, List.length_replicate, tk_len s h]; omega
theorem Qk_split (s : ByteArray) {k : Nat} (h : k < s.size) : ∃ m, s.size + nE s s.size - (k + nE s k) = (qE (s[k]'h)).length + m ∧ s.size + nE s s.size - (k + 1 + nE s (k + 1)) = m := by
  have h1 := nE_succ s k h
  have h2 := nE_mono s (show k + 1 ≤ s.size from h)
  refine ⟨_, ?_, rfl⟩
  rw [qE_len]
  unfold isEb
  by_cases hE : isE (s[k]'h).toNat
  · simp [hE] at h1 ⊢; omega
  · simp [hE] at h1 ⊢; omega
theorem Qk_form (s : ByteArray) {k : Nat} (h : k < s.size) : ∃ m, Qk s k = (qB (s.data.toList.take k)).map u8v ++ List.replicate ((qE (s[k]'h)).length + m) (.int .u8 0) ∧ Qk s (k + 1) = (qB (s.data.toList.take k)).map u8v ++ ((qE (s[k]'h)).map u8v ++ List.replicate m (.int .u8 0)) := by
  obtain ⟨m, h1, h2⟩ := Qk_split s h
  refine ⟨m, ?_, ?_⟩
  · unfold Qk; rw [h1]
  · unfold Qk; rw [h2, tk_succ s h, List.map_append, List.append_assoc]
theorem Qk_at (s : ByteArray) {k : Nat} (h : k < s.size) : (Qk s k)[k + nE s k]? = some (.int .u8 0) := by
  obtain ⟨m, h1, _⟩ := Qk_form s h
  rw [h1, List.getElem?_append_right (by rw [List.length_map, tk_len s (Nat.le_of_lt h)]; exact Nat.le_refl _), List.length_map, tk_len s (Nat.le_of_lt h), Nat.sub_self, List.getElem?_replicate, if_pos]
  rw [qE_len]; omega
theorem Qk_splice (s : ByteArray) {k : Nat} (h : k < s.size) : splice (Qk s k) (k + nE s k) ((qE (s[k]'h)).map u8v) = Qk s (k + 1) := by
  obtain ⟨m, h1, h2⟩ := Qk_form s h
  have hl : ((qB (s.data.toList.take k)).map u8v).length = k + nE s k := by rw [List.length_map, tk_len s (Nat.le_of_lt h)]
  rw [h2, h1]
  have e : ∀ (A X : List Value) (n : Nat), X.length = n → splice (A ++ List.replicate (n + m) (.int .u8 0)) A.length X = A ++ (X ++ List.replicate m (.int .u8 0)) := fun A X n hn => by
    unfold splice
    rw [List.take_left, List.drop_append, List.drop_of_length_le (Nat.le_add_right _ _), List.nil_append, Nat.add_sub_cancel_left, List.drop_replicate, hn, Nat.add_sub_cancel_left]
  rw [← hl]
  exact e _ _ _ (List.length_map ..)
theorem Qk_set (s : ByteArray) {k : Nat} (h : k < s.size) (hE : ¬ isE (s[k]'h).toNat) : (Qk s k).set (k + nE s k) (u8v (s[k]'h)) = Qk s (k + 1) := by
  obtain ⟨m, h1, h2⟩ := Qk_form s h
  have hl : ((qB (s.data.toList.take k)).map u8v).length = k + nE s k := by rw [List.length_map, tk_len s (Nat.le_of_lt h)]
  have he : qE (s[k]'h) = [s[k]'h] := by unfold qE; rw [if_neg hE]
  rw [h2, h1, he, ← hl, List.set_append_right _ _ (Nat.le_refl _), Nat.sub_self, List.length_singleton, Nat.add_comm 1 m, List.replicate_succ]
  rfl
theorem Qk_zero (s : ByteArray) : Qk s 0 = List.replicate (s.size + nE s s.size) (.int .u8 0) := by
  unfold Qk nE
  simp [qB]
theorem Qk_end (s : ByteArray) : Qk s s.size = (qB s.data.toList).map u8v := by
  unfold Qk
  rw [Nat.sub_self, List.replicate_zero, List.append_nil, List.take_of_length_le (by simp)]
theorem Qk_row (s : ByteArray) {k : Nat} {w : World} {g : Nat} (h : k < s.size) (hE : ¬ isE (s[k]'h).toNat) (hg : w.heap[g]? = some (.cells (Qk s k).toArray 5 (0, 0))) : (w.setCell ⟨g, k + nE s k, none⟩ (.int .u8 (s[k]'h).toNat)).heap[g]? = some (.cells (Qk s (k + 1)).toArray 5 (0, 0)) := by
  have := heap_setCell_same w g (k + nE s k) _ 5 (.int .u8 (s[k]'h).toNat) hg
  rw [this, ← Qk_set s h hE]
  congr 2
  apply Array.toList_inj.1
  simp [u8v]
theorem strs_all (l : List UInt8) : strOfNums (l.map fun b => (b.toNat : Int)) = ⟨l.toArray⟩ := by
  unfold strOfNums
  congr 1
  rw [List.map_map]
  have : ((fun n : Int => UInt8.ofNat n.toNat) ∘ fun b : UInt8 => (b.toNat : Int)) = id := by
    funext b
    show UInt8.ofNat (Int.toNat (b.toNat : Int)) = b
    rw [Int.toNat_natCast, UInt8.ofNat_toNat]
  rw [this, List.map_id]
theorem cvEnd (s : ByteArray) (w : World) (g c : Nat) (hg : w.heap[g]? = some (.cells (Qk s s.size).toArray 5 (0, 0))) : (convert 67 9 (.slice (some ⟨g, 0, none⟩) (s.size + nE s s.size) c)).run Tryz.prog w = .ok (.string ⟨(qB s.data.toList).toArray⟩) w := by
  have hl : (qB s.data.toList).length = s.size + nE s s.size := by
    have := tk_len s (Nat.le_refl s.size)
    rwa [List.take_of_length_le (by simp)] at this
  have := run_convert_bytes_arg (P := Tryz.prog) w 67 5 Tryz.underlying67 und5 g 0 (s.size + nE s s.size) c ((qB s.data.toList).map fun b => (b.toNat : Int)) (by rw [List.length_map, hl]) (fun i hi => by
    rw [cell_of_row _ _ _ _ _ _ hg, Qk_end, Nat.zero_add, List.getElem?_toArray, List.getElem?_map]
    have hi' : i < (qB s.data.toList).length := by omega
    rw [List.getElem?_eq_getElem hi']
    simp [List.getD, List.getElem?_eq_getElem hi', u8v]) 9 Tryz.underlying9
  rw [this, strs_all]
set_option maxRecDepth 100000 in
set_option maxHeartbeats 1600000 in
theorem rRep (B r : Nat) (s : ByteArray) (w : World) (hR : Repl w B r) (hs : s.size ≤ 1000000) (h32 : ¬ 32 ≤ s.size) :
    Calls Tryz.prog 165 #[.pointer (some ⟨r, 0, none⟩), .string s] w fun e w' => e = .returned (.string ⟨(qB s.data.toList).toArray⟩) ∧ Below w.heap.size w w' := by
  obtain ⟨h, r1, r2, r3, r4, r5, r6⟩ := hR.row
  have l1 := neq67
  have hrlt : r < w.heap.size := by
    have := block_lt_of_cell r2
    exact this
  have hmk := mkN (s.size + nE s s.size) (by have := nE_le s s.size; omega)
  rw [Int.natCast_add] at hmk
  go_enter Tryz.func165, Tryz.ntmps165
  go_wp2
  go_loop [5, 6, 10] (fun b c i => ∃ k : Nat, k ≤ s.size ∧ i = .int .i64 k ∧ b = .int .i64 ((s.size : Int) + nE s k) ∧ c = .bool (!(nE s k == 0)))
    (fun _ _ i => s.size - (intOf i).toNat)
  case atStart => exact ⟨0, Nat.zero_le _, rfl, rfl, rfl⟩
  case round =>
    obtain ⟨k, hk, rfl, rfl, rfl⟩ := hrel
    have hn := nE_le s k
    by_cases hks : k < s.size
    · have hn2 := nE_succ s k hks
      have hc := (s[k]'hks).toNat_lt
      by_cases hE : isE (s[k]'hks).toNat
      · obtain ⟨kk, cap, k1, k2, k3, k4⟩ := hR.yes _ hE
        rw [if_pos hE] at hn2
        clear hmk
        go_wp2
        go_round
        case rel => exact ⟨k + 1, by omega, by go_num, by rw [hn2]; go_num, by rw [hn2]; rfl⟩
        case measure => simp [intOf]; omega
      · have k2 := hR.no _ hc hE
        rw [if_neg hE] at hn2
        clear hmk
        go_wp2
        go_round
        case rel => exact ⟨k + 1, by omega, by go_num, by rw [hn2]; go_num, by rw [hn2]; rfl⟩
        case measure => simp [intOf]; omega
    · obtain rfl : k = s.size := by omega
      by_cases h0 : nE s s.size = 0
      · go_wp2
        go_ret
        exact ⟨congrArg (fun x => Ending.returned (.string x)) (show s = ⟨(qB s.data.toList).toArray⟩ by rw [qB_same _ (by unfold nE at h0; rwa [List.take_of_length_le (by simp)] at h0)]), Below.refl _ _⟩
      · go_wp2
        go_loopw [13, 14] (fun j i wr => ∃ k : Nat, k ≤ s.size ∧ i = .int .i64 k ∧ j = .int .i64 ((k : Int) + nE s k) ∧ wr.heap[w.heap.size]? = some (.cells (Qk s k).toArray 5 (0, 0)) ∧ Below w.heap.size w wr)
          (fun _ i _ => s.size - (intOf i).toNat)
        case atStart =>
          refine ⟨0, Nat.zero_le _, rfl, rfl, ?_, Below.alloc (Below.refl _ w) (Nat.le_refl _) _⟩
          rw [Qk_zero]
          have := heap_alloc_new w (.cells (List.replicate (s.size + nE s s.size) (Value.int .u8 0)).toArray 5)
          simpa using this
        case round =>
          obtain ⟨k, hk, rfl, rfl, hrow, hbel⟩ := hrel
          by_cases hks : k < s.size
          · have hn2 := nE_succ s k hks
            have hc := (s[k]'hks).toNat_lt
            have hn := nE_le s k
            have hq1 : wr.cell? ⟨w.heap.size, k + nE s k, none⟩ = some (.int .u8 0) := by rw [cell_of_row _ _ _ _ _ _ hrow, List.getElem?_toArray]; exact Qk_at s hks
            have hq2 : wr.frozen? ⟨w.heap.size, k + nE s k, none⟩ = false := frozen_of_row _ _ _ _ _ hrow
            have hmon := nE_mono s (show k + 1 ≤ s.size from hks)
            by_cases hE : isE (s[k]'hks).toNat
            · obtain ⟨kk, cap, k1, k2, k3, k4⟩ := hR.yes _ hE
              have y2 := (hbel.cell (p := ⟨r, (s[k]'hks).toNat, none⟩) hrlt).trans k2
              rw [if_pos hE] at hn2
              have hq : qE (s[k]'hks) = [92, UInt8.ofNat (escN (s[k]'hks).toNat)] := by unfold qE; rw [if_pos hE]
              have hsp := Qk_splice s hks
              obtain ⟨X, hX⟩ : ∃ X, X = (qE (s[k]'hks)).map u8v := ⟨_, rfl⟩
              have hXl : X.length = 2 := by rw [hX, hq]; rfl
              have hX0 : X[0]? = some (.int .u8 92) := by rw [hX, hq]; rfl
              have hX1 : X[1]? = some (.int .u8 (escN (s[k]'hks).toNat)) := by
                rw [hX, hq]
                have : escN (s[k]'hks).toNat < 256 := by unfold escN; split; omega; split <;> omega
                simp [u8v, UInt8.toNat_ofNat', Nat.mod_eq_of_lt this]
              rw [← hX] at hsp
              have b1 : (0 : Int) ≤ (k : Int) + nE s k := by omega
              have b2 : (k : Int) + nE s k ≤ s.size + nE s s.size := by omega
              have b3 : ((k : Int) + nE s k).toNat = k + nE s k := by omega
              have b4 : ¬ (s.size + nE s s.size = k + nE s k) := by omega
              have b5 : ((s[k]'hks).toNat : Int) < 256 := by omega
              have hX1c : ∀ v ∈ X, v.oneCell' = true := by
                rw [hX]
                intro v hv
                obtain ⟨b, _, rfl⟩ := List.mem_map.1 hv
                rfl
              have hkl : kk < w.heap.size := by
                have := block_lt_of_cell k3
                exact this
              have hcp : ∀ (j : Nat) v, X[j]? = some v → wr.drew.cell? ((⟨kk, 0, none⟩ : Addr).add j) = some v := fun j v hj => by
                match j, hj with
                | 0, hj =>
                  rw [hX0] at hj
                  cases hj
                  exact (hbel.cell (p := ⟨kk, 0, none⟩) hkl).trans k3
                | 1, hj =>
                  rw [hX1] at hj
                  cases hj
                  exact (hbel.cell (p := ⟨kk, 1, none⟩) hkl).trans k4
                | j + 2, hj =>
                  rw [List.getElem?_eq_none (by omega)] at hj
                  cases hj
              have hm2 : X.length = Nat.min 2 (s.size + nE s s.size - (k + nE s k)) := by
                rw [hXl]
                show 2 = min 2 _
                omega
              have hfit : k + nE s k + X.length ≤ (Qk s k).length := by rw [Qk_len s hk, hXl]; omega
              have hm2' : Hid (X.length = Nat.min 2 (s.size + nE s s.size - (k + nE s k))) := hm2
              have hcp' : Hid (∀ (j : Nat) v, X[j]? = some v → wr.drew.cell? ((⟨kk, 0, none⟩ : Addr).add j) = some v) := hcp
              have hX' : Hid (∀ v ∈ X, v.oneCell' = true) := hX1c
              have hXl' : Hid (X.length = 2) := hXl
              have hfit' : Hid (k + nE s k + X.length ≤ (Qk s k).length) := hfit
              clear hX hq hm2 hcp hX1c hfit hX0 hX1 hXl
              go_wp2
              go_region_law (refine step_copy_splice rfl (.tmp 105) (.tmp 111) 67 67 rfl 5 Tryz.underlying67 (by kernel_rfl) _ _ _ _ _ _ rfl rfl w.heap.size (k + nE s k) (Qk s k) 5 hrow X hm2' (fun _ => ⟨rfl, _, rfl, hcp'⟩) hfit' hX' w.heap.size w hbel.drew (Nat.le_refl _) ?_; intro w4 hg4 hb4)
              have hrow' : w4.heap[w.heap.size]? = some (.cells (Qk s (k + 1)).toArray 5 (0, 0)) := by
                have h4 : w4.heap[w.heap.size]? = some (.cells (splice (Qk s k) (k + nE s k) X).toArray 5 (0, 0)) := hg4
                rw [h4, hsp]
              have hXl2 : X.length = 2 := hXl'
              clear hg4 hrow hsp
              go_wp2
              go_roundw
              case rel => exact ⟨k + 1, by omega, by go_num, by rw [hn2]; go_num, hrow', hb4⟩
              case measure => simp [intOf]; omega
            · have k2 := hR.no _ hc hE
              have y2 := (hbel.cell (p := ⟨r, (s[k]'hks).toNat, none⟩) hrlt).trans k2
              have hrow' := Qk_row s hks hE hrow
              have hbel' := hbel.setCell (p := ⟨w.heap.size, k + nE s k, none⟩) (Nat.le_refl _) (.int .u8 (s[k]'hks).toNat)
              rw [if_neg hE] at hn2
              clear hrow hbel
              go_wp2
              go_roundw
              case rel => exact ⟨k + 1, by omega, by go_num, by rw [hn2]; go_num, hrow', hbel'⟩
              case measure => simp [intOf]; omega
          · obtain rfl : k = s.size := by omega
            have hcv := cvEnd s wr w.heap.size (s.size + nE s s.size) hrow
            go_wp2
            go_ret
            exact ⟨rfl, hbel⟩
end Go.Proofs
namespace Go.Proofs
open Go.RowKit

structure Drawn (w wr : World) : Prop where
  heap : wr.heap = w.heap
  os : wr.os = w.os
  tape : wr.tape = w.tape
  output : wr.output = w.output
theorem Drawn.cell {w wr : World} (h : Drawn w wr) (a : Addr) : wr.cell? a = w.cell? a := World.cell?_of_block (by rw [h.heap])
theorem Drawn.drew {w wr : World} (h : Drawn w wr) : Drawn w wr.drew := ⟨h.heap, h.os, h.tape, h.output⟩
theorem Drawn.below {w wr : World} (h : Drawn w wr) (B : Nat) : Below B w wr := ⟨h.os, h.tape, h.output, by rw [h.heap]; exact Nat.le_refl _, fun k _ => by rw [h.heap]⟩
def es : List UInt8 := [9, 10, 92, 34]
def nS (s : ByteArray) (k : Nat) : Nat := ((es.take k).map fun c => Lib.countByte s.data.toList c).sum
theorem nS_le (s : ByteArray) (k : Nat) : nS s k ≤ 4 * s.size := by
  have hc : ∀ c, Lib.countByte s.data.toList c ≤ s.size := fun c => by
    have := List.count_le_length (a := c) (l := s.data.toList)
    have hl : s.data.toList.length = s.size := by simp
    unfold Lib.countByte
    omega
  have h1 := hc 9
  have h2 := hc 10
  have h3 := hc 92
  have h4 := hc 34
  have : nS s k ≤ nS s 4 := by
    unfold nS
    match k with
    | 0 => simp [es]
    | 1 => simp [es]
    | 2 => simp [es]
    | 3 => simp [es]
    | k + 4 => simp [es]
  have h5 : nS s 4 = Lib.countByte s.data.toList 9 + (Lib.countByte s.data.toList 10 + (Lib.countByte s.data.toList 92 + Lib.countByte s.data.toList 34)) := by simp [nS, es]
  omega
theorem isEb_eq (c : UInt8) : isEb c = (c == 9 || (c == 10 || (c == 92 || c == 34))) := by
  rw [Bool.eq_iff_iff]
  simp only [isEb, decide_eq_true_eq, Bool.or_eq_true, beq_iff_eq]
  have h : ∀ x y : UInt8, x = y ↔ x.toNat = y.toNat := fun x y => ⟨fun h => by rw [h], fun h => UInt8.toNat_inj.1 h⟩
  rw [h c 9, h c 10, h c 92, h c 34]
  exact Iff.rfl
theorem cnt4 : ∀ l : List UInt8, l.countP isEb = l.count 9 + (l.count 10 + (l.count 92 + l.count 34))
  | [] => rfl
  | c :: l => by
    have ih := cnt4 l
    rw [List.countP_cons, ih, List.count_cons, List.count_cons, List.count_cons, List.count_cons, isEb_eq]
    by_cases h1 : c = 9
    · subst h1; simp; omega
    · by_cases h2 : c = 10
      · subst h2; simp; omega
      · by_cases h3 : c = 92
        · subst h3; simp; omega
        · by_cases h4 : c = 34
          · subst h4; simp; omega
          · simp [h1, h2, h3, h4]
theorem nS_all (s : ByteArray) : nS s 4 = nE s s.size := by
  unfold nE
  rw [List.take_of_length_le (by simp), cnt4]
  simp [nS, es, Lib.countByte]
set_option maxRecDepth 100000 in
set_option maxHeartbeats 3200000 in
theorem rRepL (B r : Nat) (s : ByteArray) (w : World) (hR : Repl w B r) (hs : s.size ≤ 1000000) (h32 : 32 ≤ s.size) :
    Calls Tryz.prog 165 #[.pointer (some ⟨r, 0, none⟩), .string s] w fun e w' => e = .returned (.string ⟨(qB s.data.toList).toArray⟩) ∧ Below w.heap.size w w' := by
  obtain ⟨h, r1, r2, r3, r4, r5, r6⟩ := hR.row
  have l1 := neq67
  have hrlt : r < w.heap.size := by
    have := block_lt_of_cell r2
    exact this
  have hmk := mkN (s.size + nE s s.size) (by have := nE_le s s.size; omega)
  rw [Int.natCast_add] at hmk
  have h32' : (32 : Int) ≤ (s.size : Nat) := by omega
  have e9 : ∀ h, (((⟨#[9]⟩ : ByteArray)[0]'h).toNat) = 9 := fun _ => rfl
  have e10 : ∀ h, (((⟨#[10]⟩ : ByteArray)[0]'h).toNat) = 10 := fun _ => rfl
  have e92 : ∀ h, (((⟨#[92]⟩ : ByteArray)[0]'h).toNat) = 92 := fun _ => rfl
  have e34 : ∀ h, (((⟨#[34]⟩ : ByteArray)[0]'h).toNat) = 34 := fun _ => rfl
  go_enter Tryz.func165, Tryz.ntmps165
  go_wp2
  go_loopw [5, 6, 32] (fun b c i wq => (∃ k : Nat, k ≤ 4 ∧ i = .int .i64 k ∧ b = .int .i64 ((s.size : Int) + nS s k) ∧ c = .bool (!(nS s k == 0))) ∧ Drawn w wq)
    (fun _ _ i _ => 4 - (intOf i).toNat)
  case atStart => exact ⟨⟨0, Nat.zero_le _, rfl, rfl, rfl⟩, ⟨rfl, rfl, rfl, rfl⟩⟩
  case round =>
    obtain ⟨wq, hwq⟩ : ∃ x, x = wr := ⟨_, rfl⟩
    subst hwq
    obtain ⟨⟨k, hk, rfl, rfl, rfl⟩, hD⟩ := hrel
    rcases (show k = 0 ∨ k = 1 ∨ k = 2 ∨ k = 3 ∨ k = 4 by omega) with rfl | rfl | rfl | rfl | rfl
    · have hk1 : nS s 1 = nS s 0 + Lib.countByte s.data.toList 9 := by simp [nS, es]
      obtain ⟨kk, cap, k1, k2, k3, k4⟩ := hR.yes 9 (by unfold isE; omega)
      have q2 := (hD.cell _).trans k2
      have q5 := (hD.cell _).trans r3
      have hb1 := nS_le s 0
      have hb2 := nS_le s 1
      by_cases hz : Lib.countByte s.data.toList 9 = 0
      · go_wp2_with (go_at_call 60; refine (Tryz.strings_Count_one s 9 wq).mono ?_; rintro e w' ⟨rfl, rfl⟩)
        go_roundw
        case rel =>
          refine ⟨⟨1, by omega, ?_, ?_, ?_⟩, hD⟩
          · rfl
          · rw [hk1, hz]; rfl
          · rw [hk1, hz]; rfl
        case measure => simp [intOf]
      · go_wp2_with (go_at_call 60; refine (Tryz.strings_Count_one s 9 wq).mono ?_; rintro e w' ⟨rfl, rfl⟩)
        go_region
        all_goals go_wp2
        all_goals go_roundw
        case rel =>
          refine ⟨⟨1, by omega, ?_, ?_, ?_⟩, hD.drew⟩
          · rfl
          · rw [hk1]; go_num
          · rw [hk1]; simp [hz]
        case measure => simp [intOf]
    · have hk1 : nS s 2 = nS s 1 + Lib.countByte s.data.toList 10 := by simp [nS, es]
      obtain ⟨kk, cap, k1, k2, k3, k4⟩ := hR.yes 10 (by unfold isE; omega)
      have q2 := (hD.cell _).trans k2
      have q5 := (hD.cell _).trans r4
      have hb1 := nS_le s 1
      have hb2 := nS_le s 2
      by_cases hz : Lib.countByte s.data.toList 10 = 0
      · go_wp2_with (go_at_call 60; refine (Tryz.strings_Count_one s 10 wq).mono ?_; rintro e w' ⟨rfl, rfl⟩)
        go_roundw
        case rel =>
          refine ⟨⟨2, by omega, ?_, ?_, ?_⟩, hD⟩
          · rfl
          · rw [hk1, hz]; rfl
          · rw [hk1, hz]; rfl
        case measure => simp [intOf]
      · go_wp2_with (go_at_call 60; refine (Tryz.strings_Count_one s 10 wq).mono ?_; rintro e w' ⟨rfl, rfl⟩)
        go_region
        all_goals go_wp2
        all_goals go_roundw
        case rel =>
          refine ⟨⟨2, by omega, ?_, ?_, ?_⟩, hD.drew⟩
          · rfl
          · rw [hk1]; go_num
          · rw [hk1]; simp [hz]
        case measure => simp [intOf]
    · have hk1 : nS s 3 = nS s 2 + Lib.countByte s.data.toList 92 := by simp [nS, es]; omega
      obtain ⟨kk, cap, k1, k2, k3, k4⟩ := hR.yes 92 (by unfold isE; omega)
      have q2 := (hD.cell _).trans k2
      have q5 := (hD.cell _).trans r5
      have hb1 := nS_le s 2
      have hb2 := nS_le s 3
      by_cases hz : Lib.countByte s.data.toList 92 = 0
      · go_wp2_with (go_at_call 60; refine (Tryz.strings_Count_one s 92 wq).mono ?_; rintro e w' ⟨rfl, rfl⟩)
        go_roundw
        case rel =>
          refine ⟨⟨3, by omega, ?_, ?_, ?_⟩, hD⟩
          · rfl
          · rw [hk1, hz]; rfl
          · rw [hk1, hz]; rfl
        case measure => simp [intOf]
      · go_wp2_with (go_at_call 60; refine (Tryz.strings_Count_one s 92 wq).mono ?_; rintro e w' ⟨rfl, rfl⟩)
        go_region
        all_goals go_wp2
        all_goals go_roundw
        case rel =>
          refine ⟨⟨3, by omega, ?_, ?_, ?_⟩, hD.drew⟩
          · rfl
          · rw [hk1]; go_num
          · rw [hk1]; simp [hz]
        case measure => simp [intOf]
    · have hk1 : nS s 4 = nS s 3 + Lib.countByte s.data.toList 34 := by simp [nS, es]; omega
      obtain ⟨kk, cap, k1, k2, k3, k4⟩ := hR.yes 34 (by unfold isE; omega)
      have q2 := (hD.cell _).trans k2
      have q5 := (hD.cell _).trans r6
      have hb1 := nS_le s 3
      have hb2 := nS_le s 4
      by_cases hz : Lib.countByte s.data.toList 34 = 0
      · go_wp2_with (go_at_call 60; refine (Tryz.strings_Count_one s 34 wq).mono ?_; rintro e w' ⟨rfl, rfl⟩)
        go_roundw
        case rel =>
          refine ⟨⟨4, by omega, ?_, ?_, ?_⟩, hD⟩
          · rfl
          · rw [hk1, hz]; rfl
          · rw [hk1, hz]; rfl
        case measure => simp [intOf]
      · go_wp2_with (go_at_call 60; refine (Tryz.strings_Count_one s 34 wq).mono ?_; rintro e w' ⟨rfl, rfl⟩)
        go_region
        all_goals go_wp2
        all_goals go_roundw
        case rel =>
          refine ⟨⟨4, by omega, ?_, ?_, ?_⟩, hD.drew⟩
          · rfl
          · rw [hk1]; go_num
          · rw [hk1]; simp [hz]
        case measure => simp [intOf]
    · rw [show ((4 : Nat) : Int) = (4 : Int) from rfl]
      rw [nS_all s]
      have hsz : wq.heap.size = w.heap.size := by rw [hD.heap]
      have hn := nE_le s s.size
      by_cases h0 : nE s s.size = 0
      · go_wp2
        go_ret
        exact ⟨congrArg (fun x => Ending.returned (.string x)) (show s = ⟨(qB s.data.toList).toArray⟩ by rw [qB_same _ (by unfold nE at h0; rwa [List.take_of_length_le (by simp)] at h0)]), hD.below _⟩
      · have hb0 : (nE s s.size == 0) = false := by simp [h0]
        rw [hb0, Bool.not_false]
        go_wp2
        go_loopw [13, 14] (fun j i wr => ∃ k : Nat, k ≤ s.size ∧ i = .int .i64 k ∧ j = .int .i64 ((k : Int) + nE s k) ∧ wr.heap[w.heap.size]? = some (.cells (Qk s k).toArray 5 (0, 0)) ∧ Below w.heap.size w wr)
          (fun _ i _ => s.size - (intOf i).toNat)
        case atStart =>
          refine ⟨0, Nat.zero_le _, rfl, rfl, ?_, Below.alloc (hD.below _) (by rw [hD.heap]; exact Nat.le_refl _) _⟩
          rw [Qk_zero]
          have := heap_alloc_new wq (.cells (List.replicate (s.size + nE s s.size) (Value.int .u8 0)).toArray 5)
          rw [hD.heap] at this
          simpa using this
        case round =>
          obtain ⟨k, hk, rfl, rfl, hrow, hbel⟩ := hrel
          by_cases hks : k < s.size
          · have hn2 := nE_succ s k hks
            have hc := (s[k]'hks).toNat_lt
            have hn := nE_le s k
            have hq1 : wr.cell? ⟨w.heap.size, k + nE s k, none⟩ = some (.int .u8 0) := by rw [cell_of_row _ _ _ _ _ _ hrow, List.getElem?_toArray]; exact Qk_at s hks
            have hq2 : wr.frozen? ⟨w.heap.size, k + nE s k, none⟩ = false := frozen_of_row _ _ _ _ _ hrow
            have hmon := nE_mono s (show k + 1 ≤ s.size from hks)
            by_cases hE : isE (s[k]'hks).toNat
            · obtain ⟨kk, cap, k1, k2, k3, k4⟩ := hR.yes _ hE
              have y2 := (hbel.cell (p := ⟨r, (s[k]'hks).toNat, none⟩) hrlt).trans k2
              rw [if_pos hE] at hn2
              have hq : qE (s[k]'hks) = [92, UInt8.ofNat (escN (s[k]'hks).toNat)] := by unfold qE; rw [if_pos hE]
              have hsp := Qk_splice s hks
              obtain ⟨X, hX⟩ : ∃ X, X = (qE (s[k]'hks)).map u8v := ⟨_, rfl⟩
              have hXl : X.length = 2 := by rw [hX, hq]; rfl
              have hX0 : X[0]? = some (.int .u8 92) := by rw [hX, hq]; rfl
              have hX1 : X[1]? = some (.int .u8 (escN (s[k]'hks).toNat)) := by
                rw [hX, hq]
                have : escN (s[k]'hks).toNat < 256 := by unfold escN; split; omega; split <;> omega
                simp [u8v, UInt8.toNat_ofNat', Nat.mod_eq_of_lt this]
              rw [← hX] at hsp
              have b1 : (0 : Int) ≤ (k : Int) + nE s k := by omega
              have b2 : (k : Int) + nE s k ≤ s.size + nE s s.size := by omega
              have b3 : ((k : Int) + nE s k).toNat = k + nE s k := by omega
              have b4 : ¬ (s.size + nE s s.size = k + nE s k) := by omega
              have b5 : ((s[k]'hks).toNat : Int) < 256 := by omega
              have hX1c : ∀ v ∈ X, v.oneCell' = true := by
                rw [hX]
                intro v hv
                obtain ⟨b, _, rfl⟩ := List.mem_map.1 hv
                rfl
              have hkl : kk < w.heap.size := by
                have := block_lt_of_cell k3
                exact this
              have hcp : ∀ (j : Nat) v, X[j]? = some v → wr.drew.cell? ((⟨kk, 0, none⟩ : Addr).add j) = some v := fun j v hj => by
                match j, hj with
                | 0, hj =>
                  rw [hX0] at hj
                  cases hj
                  exact (hbel.cell (p := ⟨kk, 0, none⟩) hkl).trans k3
                | 1, hj =>
                  rw [hX1] at hj
                  cases hj
                  exact (hbel.cell (p := ⟨kk, 1, none⟩) hkl).trans k4
                | j + 2, hj =>
                  rw [List.getElem?_eq_none (by omega)] at hj
                  cases hj
              have hm2 : X.length = Nat.min 2 (s.size + nE s s.size - (k + nE s k)) := by
                rw [hXl]
                show 2 = min 2 _
                omega
              have hfit : k + nE s k + X.length ≤ (Qk s k).length := by rw [Qk_len s hk, hXl]; omega
              have hm2' : Hid (X.length = Nat.min 2 (s.size + nE s s.size - (k + nE s k))) := hm2
              have hcp' : Hid (∀ (j : Nat) v, X[j]? = some v → wr.drew.cell? ((⟨kk, 0, none⟩ : Addr).add j) = some v) := hcp
              have hX' : Hid (∀ v ∈ X, v.oneCell' = true) := hX1c
              have hXl' : Hid (X.length = 2) := hXl
              have hfit' : Hid (k + nE s k + X.length ≤ (Qk s k).length) := hfit
              clear hX hq hm2 hcp hX1c hfit hX0 hX1 hXl
              go_wp2
              go_region_law (refine step_copy_splice rfl (.tmp 105) (.tmp 111) 67 67 rfl 5 Tryz.underlying67 (by kernel_rfl) _ _ _ _ _ _ rfl rfl w.heap.size (k + nE s k) (Qk s k) 5 hrow X hm2' (fun _ => ⟨rfl, _, rfl, hcp'⟩) hfit' hX' w.heap.size w hbel.drew (Nat.le_refl _) ?_; intro w4 hg4 hb4)
              have hrow' : w4.heap[w.heap.size]? = some (.cells (Qk s (k + 1)).toArray 5 (0, 0)) := by
                have h4 : w4.heap[w.heap.size]? = some (.cells (splice (Qk s k) (k + nE s k) X).toArray 5 (0, 0)) := hg4
                rw [h4, hsp]
              have hXl2 : X.length = 2 := hXl'
              clear hg4 hrow hsp
              go_wp2
              go_roundw
              case rel => exact ⟨k + 1, by omega, by go_num, by rw [hn2]; go_num, hrow', hb4⟩
              case measure => simp [intOf]; omega
            · have k2 := hR.no _ hc hE
              have y2 := (hbel.cell (p := ⟨r, (s[k]'hks).toNat, none⟩) hrlt).trans k2
              have hrow' := Qk_row s hks hE hrow
              have hbel' := hbel.setCell (p := ⟨w.heap.size, k + nE s k, none⟩) (Nat.le_refl _) (.int .u8 (s[k]'hks).toNat)
              rw [if_neg hE] at hn2
              clear hrow hbel
              go_wp2
              go_roundw
              case rel => exact ⟨k + 1, by omega, by go_num, by rw [hn2]; go_num, hrow', hbel'⟩
              case measure => simp [intOf]; omega
          · obtain rfl : k = s.size := by omega
            have hcv := cvEnd s wr w.heap.size (s.size + nE s s.size) hrow
            go_wp2
            go_ret
            exact ⟨rfl, hbel⟩
end Go.Proofs
namespace Go.Proofs
open Go.RowKit
set_option maxRecDepth 100000 in
set_option maxHeartbeats 1600000 in
theorem rNew (g : Nat) (w : World) (hg : Eight w g) : Calls Tryz.prog 50 #[.slice (some ⟨g, 0, none⟩) 8 8] w fun e w' => e = .returned (.pointer (some ⟨w.heap.size + 1, 0, none⟩)) ∧ ∃ cap, w'.heap[w.heap.size + 1]? = some (.cells (onceCells 0 0 (.int .u32 0) .nilIface (.slice (some ⟨w.heap.size, 0, none⟩) 8 cap)) 135 (0, 0)) ∧ Eight w' w.heap.size ∧ Below w.heap.size w w' := by
  have g0 : w.cell? ⟨g, 0, none⟩ = some (.string ⟨#[34]⟩) := hg 0 _ rfl
  have g1 : w.cell? ⟨g, 1, none⟩ = some (.string ⟨#[92, 34]⟩) := hg 1 _ rfl
  have g2 : w.cell? ⟨g, 2, none⟩ = some (.string ⟨#[92]⟩) := hg 2 _ rfl
  have g3 : w.cell? ⟨g, 3, none⟩ = some (.string ⟨#[92, 92]⟩) := hg 3 _ rfl
  have g4 : w.cell? ⟨g, 4, none⟩ = some (.string ⟨#[10]⟩) := hg 4 _ rfl
  have g5 : w.cell? ⟨g, 5, none⟩ = some (.string ⟨#[92, 110]⟩) := hg 5 _ rfl
  have g6 : w.cell? ⟨g, 6, none⟩ = some (.string ⟨#[9]⟩) := hg 6 _ rfl
  have g7 : w.cell? ⟨g, 7, none⟩ = some (.string ⟨#[92, 116]⟩) := hg 7 _ rfl
  go_enter Tryz.func50, Tryz.ntmps50
  go_wp2
  go_ret
  refine ⟨rfl, _, heap_alloc2_new w _ _, fun j x hx => ?_, ((Below.alloc (Below.refl _ w) (Nat.le_refl _) _).alloc (by simp) _).drew⟩
  have h := heap_alloc2_old w (.cells (#[Value.string ⟨#[34]⟩, .string ⟨#[92, 34]⟩, .string ⟨#[92]⟩, .string ⟨#[92, 92]⟩, .string ⟨#[10]⟩, .string ⟨#[92, 110]⟩, .string ⟨#[9]⟩, .string ⟨#[92, 116]⟩] ++ Builtin.zeroCells #[Value.string ⟨#[]⟩] ((Question.appendCap 8 0 9).cut (w.tape w.drawn (Question.appendCap 8 0 9)) - 8)) 9)
  refine (cell_of_row _ _ _ _ _ _ (h _)).trans ?_
  rw [Array.getElem?_append_left (by
    have := (List.getElem?_eq_some_iff.1 hx).1
    exact this)]
  match j, hx with
  | 0, hx => cases hx; rfl
  | 1, hx => cases hx; rfl
  | 2, hx => cases hx; rfl
  | 3, hx => cases hx; rfl
  | 4, hx => cases hx; rfl
  | 5, hx => cases hx; rfl
  | 6, hx => cases hx; rfl
  | 7, hx => cases hx; rfl
theorem Kept.of {B b : Nat} {w w' : World} (h : Below B w w') : Kept B b w w' := ⟨h.os, h.tape, h.output, h.size, fun k hk _ => h.block k hk⟩
theorem Kept.trans {B b : Nat} {u v w : World} (h : Kept B b u v) (k : Kept B b v w) : Kept B b u w := ⟨k.os.trans h.os, k.tape.trans h.tape, k.output.trans h.output, Nat.le_trans h.size k.size, fun i hi hn => (k.block i hi hn).trans (h.block i hi hn)⟩
theorem Kept.set {B b i : Nat} {v : Value} (w : World) : Kept B b w (w.setCell ⟨b, i, none⟩ v) := ⟨rfl, rfl, rfl, by simp, fun k _ hn => heap_setCell_other _ _ _ _ hn⟩
theorem Kept.drew {B b : Nat} (w : World) : Kept B b w w.drew := ⟨rfl, rfl, rfl, Nat.le_refl _, fun _ _ _ => rfl⟩
theorem Eight.setCell {w : World} {g b i : Nat} {v : Value} (h : Eight w g) (hne : g ≠ b) : Eight (w.setCell ⟨b, i, none⟩ v) g := fun j x hx =>
  (World.cell?_setCell_other _ _ _ _ (fun e => by have h' := congrArg Addr.block e; exact hne h'.symm)).trans (h j x hx)
theorem rRepAll (B r : Nat) (s : ByteArray) (w : World) (hR : Repl w B r) (hs : s.size ≤ 1000000) :
    Calls Tryz.prog 165 #[.pointer (some ⟨r, 0, none⟩), .string s] w fun e w' => e = .returned (.string ⟨(qB s.data.toList).toArray⟩) ∧ Below w.heap.size w w' := by
  by_cases h : 32 ≤ s.size
  · exact rRepL B r s w hR hs h
  · exact rRep B r s w hR hs h
set_option maxRecDepth 100000 in
set_option maxHeartbeats 1600000 in
theorem rReplace (b g cap : Nat) (x2 x3 : Value) (s : ByteArray) (w : World) (hb : w.heap[b]? = some (.cells (onceCells 0 0 x2 x3 (.slice (some ⟨g, 0, none⟩) 8 cap)) 135 (0, 0))) (hg : Eight w g) (hne : g ≠ b) (hs : s.size ≤ 1000000) :
    Calls Tryz.prog 51 #[.pointer (some ⟨b, 0, none⟩), .string s] w fun e w' => e = .returned (.string ⟨(qB s.data.toList).toArray⟩) ∧ Kept w.heap.size b w w' := by
  have hlt : b < w.heap.size := (Array.getElem?_eq_some_iff.1 hb).1
  have e1 := heap_setCell_same w b 1 _ 135 (.int .i32 1) hb
  have hO := rOnce b g cap x2 x3 (w.setCell ⟨b, 1, none⟩ (.int .i32 1)) e1 (hg.setCell hne)
  have hsz : (w.setCell ⟨b, 1, none⟩ (.int .i32 1)).heap.size = w.heap.size := by simp
  rw [hsz] at hO
  have hD := oDo b w (fun W => ∃ r, W.heap[b]? = some (.cells (onceCells 0 1 x2 (.iface 169 (.pointer (some ⟨r, 0, none⟩))) (.slice none 0 0)) 135 (0, 0)) ∧ Repl W w.heap.size r ∧ Kept w.heap.size b (w.setCell ⟨b, 1, none⟩ (.int .i32 1)) W)
    (cell_of_row _ _ _ _ _ _ hb) (cell_of_row _ _ _ _ _ _ hb) (frozen_of_row _ _ _ _ _ hb) hO (fun w2 h2 => by
      obtain ⟨r, h3, _⟩ := h2
      exact ⟨cell_of_row _ _ _ _ _ _ h3, cell_of_row _ _ _ _ _ _ h3, frozen_of_row _ _ _ _ _ h3, frozen_of_row _ _ _ _ _ h3⟩)
  have hmf : ∀ (fn : Fn) (first cap : Array Value) (w : World), (Instr.makeFunc fn first cap).run Tryz.prog w = .ok (.func fn first cap) w := fun _ _ _ _ => rfl
  have hm : ∀ (r : Nat) (w : World), (method 332 169 (.pointer (some ⟨r, 0, none⟩)) "Replace").run Tryz.prog w = .ok (165, .pointer (some ⟨r, 0, none⟩)) w := fun _ _ => by kernel_rfl
  clear hO e1 hg
  go_enter Tryz.func51, Tryz.ntmps51
  go_wp2_with (first | (go_at_call 78; refine hD.mono ?_; rintro e w' ⟨rfl, w2, ⟨r, h3, h4, h5⟩, rfl⟩; have q3 : w2.cell? ⟨b, 3, none⟩ = some (.iface 169 (.pointer (some ⟨r, 0, none⟩))) := cell_of_row _ _ _ _ _ _ h3) | (go_at_call 165; refine (rRepAll w.heap.size r s _ ((h4.setCell hlt).setCell hlt).drew hs).mono ?_; rintro e w3 ⟨rfl, hb3⟩))
  go_ret
  have hw : w.heap.size ≤ ((w2.setCell ⟨b, 0, none⟩ (.int .u32 1)).setCell ⟨b, 1, none⟩ (.int .i32 0)).drew.heap.size := by
    have := h5.size
    simp at this
    simpa using this
  exact ⟨rfl, (((Kept.set w).trans h5).trans (((Kept.set w2).trans (Kept.set _)).trans (Kept.drew _))).trans (Kept.of (hb3.mono hw))⟩

def eightCells : Array Value := #[.string ⟨#[34]⟩, .string ⟨#[92, 34]⟩, .string ⟨#[92]⟩, .string ⟨#[92, 92]⟩, .string ⟨#[10]⟩, .string ⟨#[92, 110]⟩, .string ⟨#[9]⟩, .string ⟨#[92, 116]⟩]
theorem eight_new (w : World) : Eight (w.alloc (.cells eightCells 9)) w.heap.size := fun j x hx => by
  refine (cell_of_row _ _ _ _ _ _ (heap_alloc_new w _)).trans ?_
  match j, hx with
  | 0, hx => cases hx; rfl
  | 1, hx => cases hx; rfl
  | 2, hx => cases hx; rfl
  | 3, hx => cases hx; rfl
  | 4, hx => cases hx; rfl
  | 5, hx => cases hx; rfl
  | 6, hx => cases hx; rfl
  | 7, hx => cases hx; rfl
set_option maxRecDepth 100000 in
set_option maxHeartbeats 1600000 in
theorem rQuote (s : ByteArray) (w : World) (hs : s.size ≤ 1000000) :
    Calls Tryz.prog 32 #[.string s] w fun e w' => e = .returned (.string ⟨(34 :: (qB s.data.toList ++ [34])).toArray⟩) ∧ Below w.heap.size w w' := by
  have hN := rNew w.heap.size (w.alloc (.cells eightCells 9)) (eight_new w)
  have hsz : (w.alloc (.cells eightCells 9)).heap.size = w.heap.size + 1 := by simp
  rw [hsz] at hN
  have hlen : (qB s.data.toList).length ≤ 2000000 := by
    have h1 := qB_len s.data.toList
    have h2 := List.countP_le_length (p := isEb) (l := s.data.toList)
    have h3 : s.data.toList.length = s.size := by simp
    omega
  obtain ⟨X, hX⟩ : ∃ X : ByteArray, X = ⟨(qB s.data.toList).toArray⟩ := ⟨_, rfl⟩
  have hXs : X.size ≤ 2000000 := by
    have : X.size = (qB s.data.toList).length := by rw [hX]; simp [ByteArray.size]
    omega
  have hR := fun cap W h3 h4 => rReplace (w.heap.size + 1 + 1) (w.heap.size + 1) cap (.int .u32 0) .nilIface s W h3 h4 (by omega) hs
  rw [← hX] at hR
  have a1 : ∀ W, (Op.stringOp .add ⟨#[34]⟩ X).run Tryz.prog W = .ok (.string (⟨#[34]⟩ ++ X)) W := fun W => run_string_add_sum W _ _ (by have : (⟨#[34]⟩ : ByteArray).size = 1 := rfl; omega)
  have a2 : ∀ W, (Op.stringOp .add (⟨#[34]⟩ ++ X) ⟨#[34]⟩).run Tryz.prog W = .ok (.string (⟨#[34]⟩ ++ X ++ ⟨#[34]⟩)) W := fun W => run_string_add_sum W _ _ (by
    have h1 : (⟨#[34]⟩ : ByteArray).size = 1 := rfl
    rw [ByteArray.size_append]; omega)
  have fin : (⟨#[34]⟩ ++ X ++ ⟨#[34]⟩ : ByteArray) = ⟨(34 :: (qB s.data.toList ++ [34])).toArray⟩ := by
    rw [hX]
    apply ByteArray.ext
    apply Array.toList_inj.1
    simp
  rw [← fin]
  clear fin hX hlen hXs
  go_enter Tryz.func32, Tryz.ntmps32
  go_wp2_with (first | (go_at_call 50; refine hN.mono ?_; rintro e w2 ⟨rfl, cap, h3, h4, h5⟩) | (go_at_call 51; refine (hR cap _ h3 h4).mono ?_; rintro e w3 ⟨rfl, hk⟩))
  go_ret
  refine ⟨rfl, ⟨hk.os.trans h5.os, hk.tape.trans h5.tape, hk.output.trans h5.output, ?_, fun k hlt => ?_⟩⟩
  · have h1 := hk.size
    have h2 := h5.size
    omega
  · have h2 := h5.size
    exact (hk.block k (by omega) (by omega)).trans ((h5.block k (by omega)).trans (Below.heap_alloc w _ k hlt))
end Go.Proofs
namespace Go.Ab
open Go.Proofs

def i64B (n : Int) : Bool := leI (-9223372036854775808) n && leI n 9223372036854775807
theorem i64B_of {n : Int} (h : i64B n = true) : -9223372036854775808 ≤ n ∧ n ≤ 9223372036854775807 := by
  unfold i64B at h
  rw [Bool.and_eq_true] at h
  exact ⟨leI_t h.1, leI_t h.2⟩
theorem i64B_t {n : Int} (h1 : -9223372036854775808 ≤ n) (h2 : n ≤ 9223372036854775807) : i64B n = true := by
  unfold i64B
  rw [ev_le_t h1, ev_le_t h2]; rfl
def it (n : Int) : W := Lib.itoa n
def k_Itoa : Nat × Con := (n_strconv_Itoa, fun
  | [.lf (.int .i64 n)], [] => some (i64B n, [.str (mk (it n))])
  | _, _ => none)
def jn (l : List W) : W := match l with
  | [] => []
  | a :: l => a ++ l.flatMap fun w => 32 :: w
def dSs (xs : List (List L)) : List W := xs.map fun e => bl (cT 0 e)
def k_Join : Nat × Con := (n_strings_Join, fun
  | [.lf (.lst 9 xs), .lf (.str sep)], [] => some (Nat.ble xs.length 1000000 && (Nat.ble (jn (dSs xs)).length 100000000 && (bl sep == [32])), [.str (mk (jn (dSs xs)))])
  | _, _ => none)
def k_Cont : Nat × Con := (n_strings_Contains, fun
  | [.lf (.str s), .lf (.str p)], [] => some (Nat.ble s.size 1000000000 && (bl p == [10]), [.bool ((bl s).contains 10)])
  | _, _ => none)
def spl (c : UInt8) : List UInt8 → List W
  | [] => [[]]
  | x :: l => if x = c then [] :: spl c l else match spl c l with
    | [] => [[x]]
    | h :: t => (x :: h) :: t
def k_Split : Nat × Con := (n_strings_Split, fun
  | [.lf (.str s), .lf (.str p)], [] => some (Nat.ble s.size 1000000000 && Nat.beq p.size 1, [.lst 9 (eSs (spl ((bl p).getD 0 0) (bl s)))])
  | _, _ => none)
def qt (s : W) : W := 34 :: (qB s ++ [34])
def k_pquote : Nat × Con := (n_script_quote, conT (fun s => sm s.length) fun s => [.str (mk (qt s))])
end Go.Ab
namespace Go.Ab
open Go.Proofs
def k_add : Nat × Con := (n_script_Line_1, fun
  | [.lf (.lst 9 xs), .lf (.ptr 0 0)], [.box [.sl 9] [.row 1], .row 9 ls true] => some (sm xs.length && Nat.ble ls.length 100000000, [.lst 9 (ls ++ xs)])
  | _, _ => none)
def nmR (ls : List (List L)) (ns : List Int) : List L := [.any, .lst 9 (ls ++ eSs (ns.map it))]
def k_num : Nat × Con := (n_script_Line_2, fun
  | [.lf (.lst 3 [[.int .i64 a]]), .lf (.ptr 0 0)], [.box [.oth] [.clo 29 [.ptr 1 0]], .box [.sl 9] [.row 2], .row 9 ls true] => some (i64B a && Nat.ble ls.length 10000000, nmR ls [a])
  | [.lf (.lst 3 [[.int .i64 a], [.int .i64 b]]), .lf (.ptr 0 0)], [.box [.oth] [.clo 29 [.ptr 1 0]], .box [.sl 9] [.row 2], .row 9 ls true] => some ((i64B a && i64B b) && Nat.ble ls.length 10000000, nmR ls [a, b])
  | [.lf (.lst 3 [[.int .i64 a], [.int .i64 b], [.int .i64 c]]), .lf (.ptr 0 0)], [.box [.oth] [.clo 29 [.ptr 1 0]], .box [.sl 9] [.row 2], .row 9 ls true] => some ((i64B a && (i64B b && i64B c)) && Nat.ble ls.length 10000000, nmR ls [a, b, c])
  | _, _ => none)
end Go.Ab
namespace Go.Ab
open Go.Proofs

def dIs (xs : List (List L)) : List Int := xs.map (cI 0)
def cBo (i : Nat) (e : List L) : Bool := (e.getD i .any).toBool
def dR1 (e : List L) : Ru := (cBo 0 e, bl (cT 1 e), bl (cT 2 e), bl (cT 3 e))
def dW1 (e : List L) : Wr := (bl (cT 0 e), bl (cT 1 e), cBo 2 e)
def dRs (xs : List (List L)) : List Ru := xs.map dR1
def dWs (xs : List (List L)) : List Wr := xs.map dW1
open Classical in
noncomputable def isLs (us gs rs ws : List (List L)) : Bool := decide (eIs (dIs us) = us ∧ eSs (dSs gs) = gs ∧ eRs (dRs rs) = rs ∧ eWs (dWs ws) = ws)
theorem dIs_e (l : List Int) : dIs (eIs l) = l := by
  unfold dIs eIs
  rw [List.map_map]
  exact List.map_id'' (fun _ => rfl) l
theorem dSs_e (l : List W) : dSs (eSs l) = l := by
  unfold dSs eSs
  rw [List.map_map]
  exact List.map_id'' (fun _ => rfl) l
theorem dRs_e (l : List Ru) : dRs (eRs l) = l := by
  unfold dRs eRs
  rw [List.map_map]
  exact List.map_id'' (fun _ => rfl) l
theorem dWs_e (l : List Wr) : dWs (eWs l) = l := by
  unfold dWs eWs
  rw [List.map_map]
  exact List.map_id'' (fun _ => rfl) l
theorem isLs_e (us : List Int) (gs : List W) (rs : List Ru) (ws : List Wr) : isLs (eIs us) (eSs gs) (eRs rs) (eWs ws) = true := by
  unfold isLs
  rw [dIs_e, dSs_e, dRs_e, dWs_e]
  simp
theorem isLs_of {us gs rs ws : List (List L)} (h : isLs us gs rs ws = true) : ∃ a b c d, us = eIs a ∧ gs = eSs b ∧ rs = eRs c ∧ ws = eWs d := by
  have h' : eIs (dIs us) = us ∧ eSs (dSs gs) = gs ∧ eRs (dRs rs) = rs ∧ eWs (dWs ws) = ws := by
    unfold isLs at h
    simpa using h
  obtain ⟨h1, h2, h3, h4⟩ := h'
  exact ⟨_, _, _, _, h1.symm, h2.symm, h3.symm, h4.symm⟩
noncomputable def conE (g : Ev → Bool) (f : Ev → List L) : Con
  | [.agg [.int .i64 k, .str a1, .str a2, .str a3, .int .i64 a4, .int .i64 a5, .int .i64 a6, .int .i64 a7, .str a8, .str a9, .lst 3 us, .lst 9 gs, .lst 65 rs, .lst 51 ws]], [] =>
    some (isLs us gs rs ws && g ⟨k, bl a1, bl a2, bl a3, a4, a5, a6, a7, bl a8, bl a9, dIs us, dSs gs, dRs rs, dWs ws⟩, f ⟨k, bl a1, bl a2, bl a3, a4, a5, a6, a7, bl a8, bl a9, dIs us, dSs gs, dRs rs, dWs ws⟩)
  | _, _ => none
theorem conE_of {ks : List (Nat × Con)} {n : Nat} {g : Ev → Bool} {f : Ev → List L} (hx : ∀ p ∈ ks, Holds p) (h : ∀ e : Ev, g e = true → Runs (cfg ks) (.enter n [.agg (encE e)] []) (f e)) : Holds (n, conE g f) :=
  con_run hx fun aa hp r h0 => by
    unfold conE at h0
    split at h0
    · obtain ⟨g0, rfl⟩ := xo h0
      rw [Bool.and_eq_true] at g0
      obtain ⟨a, b, c, d, rfl, rfl, rfl, rfl⟩ := isLs_of g0.1
      rw [dIs_e, dSs_e, dRs_e, dWs_e] at g0 ⊢
      exact h _ g0.2
    · cases h0

def wW (x : Wr) : List W := cond x.2.2 [wDel, x.1] [wPut, x.1, qt x.2.1]
def wG (e : Ev) : List W := e.users.flatMap (fun u => [wUser, it u]) ++ e.groups.flatMap fun g => [wGroup, g]
def rq (w : W) : W := cond w.isEmpty [45] w
def wR (x : Ru) : List W := [cond x.1 wAllow wDeny, x.2.1, rq x.2.2.1, x.2.2.2]
def lsw (e : Ev) : List W := cond (e.kind == 1) ([e.repo, e.name, it e.who] ++ e.writes.flatMap wW) (cond (e.kind == 7) (e.gname :: wG e) (e.rules.flatMap wR))
def okI (e : Ev) : Bool := (i64B e.who && (i64B e.n && (i64B e.m && i64B e.k))) && e.users.all i64B
noncomputable def k_listed : Nat × Con := (n_script_listed, fun
  | [.agg [.int .i64 k, .str a1, .str a2, .str a3, .int .i64 a4, .int .i64 a5, .int .i64 a6, .int .i64 a7, .str a8, .str a9, .lst 3 us, .lst 9 gs, .lst 65 rs, .lst 51 ws], .lf (.clo 29 [.ptr 0 0]), .lf (.clo 30 [.ptr 1 0])], [.box [.sl 9] [.row 2], .box [.oth] [.clo 29 [.ptr 0 0]], .row 9 ls true] =>
    some (isLs us gs rs ws && (okI ⟨k, bl a1, bl a2, bl a3, a4, a5, a6, a7, bl a8, bl a9, dIs us, dSs gs, dRs rs, dWs ws⟩ && (sm (jn (lsw ⟨k, bl a1, bl a2, bl a3, a4, a5, a6, a7, bl a8, bl a9, dIs us, dSs gs, dRs rs, dWs ws⟩)).length && sm ls.length)),
      [.lst 9 (ls ++ eSs (lsw ⟨k, bl a1, bl a2, bl a3, a4, a5, a6, a7, bl a8, bl a9, dIs us, dSs gs, dRs rs, dWs ws⟩)), .any])
  | _, _ => none)
end Go.Ab
namespace Go.Ab
open Go.Proofs
noncomputable def k_eqI : Nat × Con := (n_slices_Equal, fun
  | [.lf (.lst 3 xs), .lf (.lst 3 ys)], [] => some (isLs xs [] [] [] && (isLs ys [] [] [] && sm ys.length), [.bool (decide (dIs xs = dIs ys))])
  | _, _ => none)
noncomputable def k_eqS : Nat × Con := (n_slices_Equal_54, fun
  | [.lf (.lst 9 xs), .lf (.lst 9 ys)], [] => some (isLs [] xs [] [] && (isLs [] ys [] [] && sm ys.length), [.bool (decide (dSs xs = dSs ys))])
  | _, _ => none)
noncomputable def k_eqR : Nat × Con := (n_slices_Equal_55, fun
  | [.lf (.lst 65 xs), .lf (.lst 65 ys)], [] => some (isLs [] [] xs [] && (isLs [] [] ys [] && sm ys.length), [.bool (decide (dRs xs = dRs ys))])
  | _, _ => none)
noncomputable def k_eqW : Nat × Con := (n_slices_Equal_56, fun
  | [.lf (.lst 51 xs), .lf (.lst 51 ys)], [] => some (isLs [] [] [] xs && (isLs [] [] [] ys && sm ys.length), [.bool (decide (dWs xs = dWs ys))])
  | _, _ => none)
def smE (e : Ev) : Bool := (sm e.users.length && sm e.groups.length) && (sm e.rules.length && sm e.writes.length)
noncomputable def conEE (g : Ev → Ev → Bool) (f : Ev → Ev → List L) : Con
  | [.agg [.int .i64 k, .str a1, .str a2, .str a3, .int .i64 a4, .int .i64 a5, .int .i64 a6, .int .i64 a7, .str a8, .str a9, .lst 3 us, .lst 9 gs, .lst 65 rs, .lst 51 ws], .agg [.int .i64 k', .str a1', .str a2', .str a3', .int .i64 a4', .int .i64 a5', .int .i64 a6', .int .i64 a7', .str a8', .str a9', .lst 3 us', .lst 9 gs', .lst 65 rs', .lst 51 ws']], [] =>
    some (isLs us gs rs ws && (isLs us' gs' rs' ws' && g ⟨k, bl a1, bl a2, bl a3, a4, a5, a6, a7, bl a8, bl a9, dIs us, dSs gs, dRs rs, dWs ws⟩ ⟨k', bl a1', bl a2', bl a3', a4', a5', a6', a7', bl a8', bl a9', dIs us', dSs gs', dRs rs', dWs ws'⟩),
      f ⟨k, bl a1, bl a2, bl a3, a4, a5, a6, a7, bl a8, bl a9, dIs us, dSs gs, dRs rs, dWs ws⟩ ⟨k', bl a1', bl a2', bl a3', a4', a5', a6', a7', bl a8', bl a9', dIs us', dSs gs', dRs rs', dWs ws'⟩)
  | _, _ => none
theorem conEE_of {ks : List (Nat × Con)} {n : Nat} {g : Ev → Ev → Bool} {f : Ev → Ev → List L} (hx : ∀ p ∈ ks, Holds p) (h : ∀ a b : Ev, g a b = true → Runs (cfg ks) (.enter n [.agg (encE a), .agg (encE b)] []) (f a b)) : Holds (n, conEE g f) :=
  con_run hx fun aa hp r h0 => by
    unfold conEE at h0
    split at h0
    · obtain ⟨g0, rfl⟩ := xo h0
      rw [Bool.and_eq_true, Bool.and_eq_true] at g0
      obtain ⟨a, b, c, d, rfl, rfl, rfl, rfl⟩ := isLs_of g0.1
      obtain ⟨a', b', c', d', rfl, rfl, rfl, rfl⟩ := isLs_of g0.2.1
      rw [dIs_e, dSs_e, dRs_e, dWs_e, dIs_e, dSs_e, dRs_e, dWs_e] at g0 ⊢
      exact h _ _ g0.2.2
    · cases h0
noncomputable def k_psame : Nat × Con := (n_script_same, conEE (fun _ b => smE b) fun a b => [.bool (decide (a = b))])
noncomputable def k_rsame : Nat × Con := (n_codesearchref54_Same, conEE (fun _ b => smE b) fun a b => [.bool (decide (a = b))])
def eEs (l : List Ev) : List (List L) := l.map encE
def cLs (i : Nat) (e : List L) : List (List L) := (e.getD i .any).toLst
def dE1 (e : List L) : Ev := ⟨cI 0 e, bl (cT 1 e), bl (cT 2 e), bl (cT 3 e), cI 4 e, cI 5 e, cI 6 e, cI 7 e, bl (cT 8 e), bl (cT 9 e), dIs (cLs 10 e), dSs (cLs 11 e), dRs (cLs 12 e), dWs (cLs 13 e)⟩
def dEs (xs : List (List L)) : List Ev := xs.map dE1
theorem dE1_e (e : Ev) : dE1 (encE e) = e := by
  obtain ⟨k, a1, a2, a3, a4, a5, a6, a7, a8, a9, us, gs, rs, ws⟩ := e
  show (⟨k, a1, a2, a3, a4, a5, a6, a7, a8, a9, dIs (eIs us), dSs (eSs gs), dRs (eRs rs), dWs (eWs ws)⟩ : Ev) = _
  rw [dIs_e, dSs_e, dRs_e, dWs_e]
theorem dEs_e (l : List Ev) : dEs (eEs l) = l := by
  unfold dEs eEs
  rw [List.map_map]
  exact List.map_id'' (fun e => dE1_e e) l
open Classical in
noncomputable def isEs (xs : List (List L)) : Bool := decide (eEs (dEs xs) = xs)
theorem isEs_e (l : List Ev) : isEs (eEs l) = true := by
  unfold isEs
  rw [dEs_e]
  simp
theorem isEs_of {xs : List (List L)} (h : isEs xs = true) : ∃ l, xs = eEs l := by
  unfold isEs at h
  have h' : eEs (dEs xs) = xs := by simpa using h
  exact ⟨_, h'.symm⟩
theorem eEs_len (l : List Ev) : (eEs l).length = l.length := List.length_map ..
noncomputable def k_SameList : Nat × Con := (n_codesearchref54_SameList, fun
  | [.lf (.lst 42 xs), .lf (.lst 42 ys)], [] => some (isEs xs && (isEs ys && (sm ys.length && (dEs ys).all smE)), [.bool (decide (dEs xs = dEs ys))])
  | _, _ => none)
end Go.Ab
