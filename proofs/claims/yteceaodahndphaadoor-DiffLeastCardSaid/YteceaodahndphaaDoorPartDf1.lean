/- The numbers of the functions, the named points, the contracts' frame. -/
import Derived.Test.YteceaodahndphaaDoorPartAb3
import Derived.Test.YteceaodahndphaaDoorProg
import Derived.KernelRfl
import Derived.Lib.ItoaNum
import Derived.Shelf.Strings.Builder1
import Derived.WalkKit
import Derived.WalkSpells
import Derived.Tactics
import Derived.Tactics2
import Derived.StillTactics
import Derived.Laws.Pointers
namespace Go.Ab
open Go.Proofs
abbrev n_main_main : Nat := 0
abbrev n_gosem_cut : Nat := 1
abbrev n_gosem_cut_init : Nat := 2
abbrev n_codesearchlaw23_DiffLines : Nat := 3
abbrev n_codesearchlaw23_DiffMerges : Nat := 4
abbrev n_codesearchlaw23_DiffParses : Nat := 5
abbrev n_codesearchlaw23_DiffLeast : Nat := 6
abbrev n_codesearchlaw23_DiffMerging : Nat := 7
abbrev n_codesearchlaw23_DiffAgain : Nat := 8
abbrev n_codesearchlaw23_DiffApplies : Nat := 9
abbrev n_codesearchlaw23_DiffBack : Nat := 10
abbrev n_codesearchlaw23_alive : Nat := 11
abbrev n_codesearchlaw23_few : Nat := 12
abbrev n_diff_Lines : Nat := 13
abbrev n_codesearchref23_Lines : Nat := 14
abbrev n_codesearchref23_Same : Nat := 15
abbrev n_diff_Distance : Nat := 16
abbrev n_codesearchref23_Distance : Nat := 17
abbrev n_diff_Merge : Nat := 18
abbrev n_codesearchref23_Merge : Nat := 19
abbrev n_codesearchref23_SameText : Nat := 20
abbrev n_codesearchlaw23_hunks : Nat := 21
abbrev n_codesearchref23_Right : Nat := 22
abbrev n_codesearchlaw23_plain : Nat := 23
abbrev n_diff_Print : Nat := 24
abbrev n_codesearchref23_Print : Nat := 25
abbrev n_diff_Parse : Nat := 26
abbrev n_codesearchref23_Parse : Nat := 27
abbrev n_diff_Apply : Nat := 28
abbrev n_codesearchlaw23_marked : Nat := 29
abbrev n_diff_Right : Nat := 30
abbrev n_codesearchref23_Apply : Nat := 31
abbrev n_diff_Invert : Nat := 32
abbrev n_codesearchref23_Invert : Nat := 33
abbrev n_codesearchlaw23_one : Nat := 34
abbrev n_diff_Lines_1 : Nat := 35
abbrev n_slices_Clone : Nat := 36
abbrev n_diff_common : Nat := 37
abbrev n_codesearchref23_table : Nat := 38
abbrev n_codesearchref23_next : Nat := 39
abbrev n_codesearchref23_gap : Nat := 40
abbrev n_codesearchref23_sameHunk : Nat := 41
abbrev n_slices_Clone_42 : Nat := 42
abbrev n_diff_same : Nat := 43
abbrev n_slices_SortStableFunc : Nat := 44
abbrev n_diff_Merge_1 : Nat := 45
abbrev n_strings_Builder_WriteString : Nat := 46
abbrev n_strconv_Itoa : Nat := 47
abbrev n_strings_Builder_String : Nat := 48
abbrev n_codesearchref23_digits : Nat := 49
abbrev n_strings_Split : Nat := 50
abbrev n_diff_head : Nat := 51
abbrev n_strings_HasPrefix : Nat := 52
abbrev n_codesearchref23_hunk : Nat := 53
abbrev n_diff_lengths : Nat := 54
abbrev n_slices_Equal : Nat := 55
abbrev n_slices_stableCmpFunc : Nat := 56
abbrev n_strings_Builder_copyCheck : Nat := 57
abbrev n_internal_strconv_Itoa : Nat := 58
abbrev n_strings_genSplit : Nat := 59
abbrev n_diff_number : Nat := 60
abbrev n_internal_stringslite_HasPrefix : Nat := 61
abbrev n_codesearchref23_number : Nat := 62
abbrev n_codesearchref23_line : Nat := 63
abbrev n_slices_insertionSortCmpFunc : Nat := 64
abbrev n_slices_symMergeCmpFunc : Nat := 65
abbrev n_internal_abi_NoEscape : Nat := 66
abbrev n_internal_strconv_FormatInt : Nat := 67
abbrev n_strings_explode : Nat := 68
abbrev n_strings_Count : Nat := 69
abbrev n_strings_Index : Nat := 70
abbrev n_slices_rotateCmpFunc : Nat := 71
abbrev n_internal_strconv_small : Nat := 72
abbrev n_internal_strconv_numDigits : Nat := 73
abbrev n_internal_strconv_formatBase10 : Nat := 74
abbrev n_internal_strconv_formatBits : Nat := 75
abbrev n_unicode_utf8_RuneCountInString : Nat := 76
abbrev n_unicode_utf8_DecodeRuneInString : Nat := 77
abbrev n_internal_bytealg_CountString : Nat := 78
abbrev n_internal_stringslite_Index : Nat := 79
abbrev n_slices_swapRangeCmpFunc : Nat := 80
abbrev n_internal_strconv_log10Pow2 : Nat := 81
abbrev n_math_bits_Len64 : Nat := 82
abbrev n_internal_strconv_bool2 : Nat := 83
abbrev n_internal_strconv_isPowerOfTwo : Nat := 84
abbrev n_math_bits_TrailingZeros : Nat := 85
abbrev n_unicode_utf8_decodeRuneInStringSlow : Nat := 86
abbrev n_internal_stringslite_IndexByte : Nat := 87
abbrev n_internal_bytealg_IndexString : Nat := 88
abbrev n_internal_bytealg_Cutover : Nat := 89
abbrev n_internal_bytealg_IndexRabinKarp : Nat := 90
abbrev n_math_bits_TrailingZeros32 : Nat := 91
abbrev n_math_bits_TrailingZeros64 : Nat := 92
abbrev n_internal_bytealg_IndexByteString : Nat := 93
abbrev n_internal_bytealg_hashStr : Nat := 94
abbrev n_runtime_boundsError_Error : Nat := 95
abbrev n_runtime_boundsError_RuntimeError : Nat := 96
abbrev n_runtime_errorString_Error : Nat := 97
abbrev n_runtime_errorString_RuntimeError : Nat := 98
abbrev n_runtime_plainError_Error : Nat := 99
abbrev n_runtime_plainError_RuntimeError : Nat := 100
abbrev n_runtime_errorAddressString_Error : Nat := 101
abbrev n_runtime_errorAddressString_RuntimeError : Nat := 102
abbrev n_runtime_TypeAssertionError_Error : Nat := 103
abbrev n_runtime_TypeAssertionError_RuntimeError : Nat := 104
abbrev n_runtime_PanicNilError_Error : Nat := 105
abbrev n_runtime_PanicNilError_RuntimeError : Nat := 106
abbrev n_internal_abi_Type_Align : Nat := 107
abbrev n_internal_runtime_maps_unhashableTypeError_Error : Nat := 108
abbrev n_internal_runtime_maps_unhashableTypeError_RuntimeError : Nat := 109
abbrev n_api_Errno_Error : Nat := 110
abbrev n_strings_Builder_Reset : Nat := 111
abbrev n_internal_abi_Kind_String : Nat := 112
abbrev n_var_s_door_gosem_cut_vars_holds_initialisers_alone_see_the_manifest_s_row_cutvarsword_look_11_test_files_too : Nat := 113
abbrev n_var_s_door_internal_strconv_uint64pow10_is_laid_by_its_own_initialiser_plain_data_look_11 : Nat := 114
abbrev n_var_s_door_math_bits_deBruijn32tab_is_laid_by_its_own_initialiser_plain_data_look_11 : Nat := 115
abbrev n_var_s_door_math_bits_deBruijn64tab_is_laid_by_its_own_initialiser_plain_data_look_11 : Nat := 116
abbrev n_var_s_door_the_look_of_gosem_cut_vars_went_over_the_folder_that_the_caller_named_as_the_repository_s_root_look_11 : Nat := 117
abbrev n_var_s_door_unicode_utf8_acceptRanges_is_laid_by_its_own_initialiser_plain_data_look_11 : Nat := 118
abbrev n_var_s_door_unicode_utf8_first_is_laid_by_its_text_alone_pinned_1 : Nat := 119
abbrev n_gosem_cut_vars : Nat := 120
def ptsL : List (Nat × List (Nat × List Nat)) := [
  (12, [(4, [0, 3])]),
  (13, [(5, [0, 3, 5, 8, 14, 15, 16])]),
  (14, [(5, [0, 1, 5, 6, 7, 8, 9, 10])]),
  (15, [(4, [0, 1, 5])]),
  (16, [(3, [3, 6, 7, 8])]),
  (17, [(3, [0, 3, 4])]),
  (18, [(4, [0, 8, 10, 24, 25, 26]), (8, [0, 8, 10, 12, 13, 24, 25, 26, 30, 31, 32])]),
  (19, [(4, [0, 8, 9, 10, 11, 12])]),
  (20, [(4, [0, 1, 5])]),
  (21, [(4, [0, 3])]),
  (22, [(2, [0, 1, 5])]),
  (23, [(2, [0, 3]), (5, [0, 3, 4]), (9, [0, 3, 4, 5, 6])]),
  (24, [(3, [3, 8, 9, 10]), (7, [3, 8, 9, 10, 35, 36, 37])]),
  (25, [(3, [0, 3, 4]), (7, [0, 3, 4, 5])]),
  (26, [(7, [4, 5]), (14, [4, 5, 6, 8, 57, 58, 59])]),
  (27, [(3, [0, 4, 5])]),
  (28, [(7, [0, 7, 8, 18, 19, 20])]),
  (29, [(2, [0, 3])]),
  (30, [(2, [0, 1, 7, 8, 9])]),
  (31, [(7, [0, 1, 7, 8, 9])]),
  (32, [(7, [0, 7, 8, 19, 20, 21])]),
  (33, [(7, [0, 1, 7, 8, 9])]),
  (37, [(4, [0, 1, 5, 6, 7, 8]), (6, [0, 1, 5, 6, 7, 8, 9])]),
  (38, [(3, [0, 1, 5, 6]), (7, [0, 1, 5, 7]), (10, [0, 1, 5, 7, 8])]),
  (39, [(1, [0, 1, 2])]),
  (49, [(2, [0, 3])]),
  (51, [(8, [2, 4, 5, 20])]),
  (53, [(14, [0, 4, 10, 11, 12, 13])]),
  (54, [(3, [0, 1, 5, 14, 15]), (8, [0, 1, 5, 7]), (11, [0, 1, 5, 7, 8])]),
  (55, [(4, [0, 1, 12, 13])]),
  (56, [(2, [0, 1, 2, 6, 7, 8]), (7, [0, 1, 2, 6]), (9, [0, 1, 2, 6, 7, 8])]),
  (59, [(11, [0, 1, 2, 3, 9, 10])]),
  (60, [(5, [0, 4, 25, 26])]),
  (62, [(3, [0, 1, 2, 8, 9])]),
  (63, [(1, [0, 1])]),
  (64, [(1, [0, 1, 2, 3, 8]), (4, [0, 1, 2, 3, 8, 9])]),
  (65, [(3, [0, 1, 4, 10, 11]), (9, [0, 10, 13]), (15, [0, 2, 4, 14, 15]), (21, [0, 14, 17]), (33, [0, 1, 2, 3, 4, 18, 19, 20, 21, 22])]),
  (68, [(6, [0, 1, 6, 7])]),
  (69, [(6, [0, 1, 5])]),
  (71, [(2, [0, 2, 4, 10, 11])]),
  (74, [(1, [0, 1, 4])]),
  (75, [(11, [0, 1, 3, 4, 10, 11, 12, 13, 14, 15, 16]), (18, [0, 1, 3, 4, 10, 11, 12, 13, 17])]),
  (76, [(2, [2, 4])]),
  (79, [(15, [0, 1, 5, 6, 7, 8, 9, 10])]),
  (80, [(1, [0, 1, 2, 3, 10])]),
  (90, [(5, [0, 1, 5, 6, 7, 8, 9]), (11, [0, 1, 5, 6, 7, 8, 10])]),
  (94, [(3, [0, 4, 5]), (8, [4, 6, 7, 8])])]
def ownL : List Nat := [40, 14, 42]
def wrL : List Nat := [44]
def matL : List Nat := [54]
def slfL : List Nat := [66]
def tabsL : List (String × (Array Value → Prop)) := [("internal/strconv.uint64pow10", fun cs => cs = (Lib.pow10Tab.map fun z => Value.int .u64 z).toArray), ("internal/bytealg.MaxLen", fun cs => ∃ m, cs = #[Value.int .i64 m])]
def mvL : List Nat := [40]
def fgtL : List Nat := []
noncomputable def cfg (xs : List (Nat × Con)) : Cfg := { P := Tryd.prog, pts := lookP ptsL, own := memN ownL, ext := look xs, wrA := memN wrL, matT := memN matL, fgt := memN fgtL, mvA := memN mvL, tabs := tabsL, slfT := memN slfL }
theorem noCount : NoCount Tryd.prog := by
  intro f fn h
  have hall : (Tryd.prog.funcs.toList.all fun fn => !(fn.name == "runtime.NumGoroutine")) = true := by kernel_rfl
  have hm : fn ∈ Tryd.prog.funcs.toList := Array.mem_toList_iff.2 (Array.mem_of_getElem? h)
  have := List.all_eq_true.1 hall fn hm
  simpa using this
theorem mixed : Tryd.prog.follows .mixedOrders = true := by kernel_rfl
theorem cfg_ext {xs : List (Nat × Con)} (h : ∀ p ∈ xs, ExtFor (cfg xs) p.1 p.2) : ExtOk (cfg xs) := extOk_of fun f S hf => h (f, S) (look_mem hf)
/-- A contract holds whatever the other contracts are. -/
theorem con_to {xs ys : List (Nat × Con)} {f : FuncId} {S : Con} (h : ExtFor (cfg xs) f S) : ExtFor (cfg ys) f S := h.to rfl rfl rfl
/-- It holds. -/
def Holds (p : Nat × Con) : Prop := ExtFor (cfg []) p.1 p.2
/-- A contract out of the text. -/
theorem con_run {xs : List (Nat × Con)} (hx : ∀ p ∈ xs, Holds p) {f : FuncId} {S : Con} (h : ∀ aa hp r, S aa hp = some (true, r) → Runs (cfg xs) (.enter f aa hp) r) : Holds (f, S) :=
  con_to (extFor_run (C := cfg xs) (cfg_ext fun p hp => con_to (hx p hp)) noCount mixed h)
theorem hold0 : ∀ p ∈ ([] : List (Nat × Con)), Holds p := fun _ h => by cases h
theorem hold1 {a : Nat × Con} {l : List (Nat × Con)} (h : Holds a) (hl : ∀ p ∈ l, Holds p) : ∀ p ∈ a :: l, Holds p := fun p hp => by
  rcases List.mem_cons.1 hp with rfl | hp
  · exact h
  · exact hl p hp
end Go.Ab
namespace Go.Ab
open Go.Proofs

abbrev W := List UInt8
structure Hk where
  fr : Int
  to : Int
  ls : List W
  deriving DecidableEq
instance : Inhabited Hk := ⟨⟨0, 0, []⟩⟩

def eS (l : W) : List L := [.str (mk l)]
def eSs (a : List W) : List (List L) := a.map eS
def dS (e : List L) : W := bl (cT 0 e)
def dSs (xs : List (List L)) : List W := xs.map dS
def eH (h : Hk) : List L := [.int .i64 h.fr, .int .i64 h.to, .lst 9 (eSs h.ls)]
def eHs (l : List Hk) : List (List L) := l.map eH
def dH (e : List L) : Hk := ⟨cI 0 e, cI 1 e, dSs (cX 2 e)⟩
def dHs (xs : List (List L)) : List Hk := xs.map dH

theorem dS_e (l : W) : dS (eS l) = l := rfl
theorem dSs_e (a : List W) : dSs (eSs a) = a := by
  unfold dSs eSs
  rw [List.map_map]
  exact List.map_id'' (fun _ => rfl) a
theorem dH_e (h : Hk) : dH (eH h) = h := by
  obtain ⟨a, b, c⟩ := h
  show Hk.mk a b (dSs (eSs c)) = _
  rw [dSs_e]
theorem dHs_e (l : List Hk) : dHs (eHs l) = l := by
  unfold dHs eHs
  rw [List.map_map]
  exact List.map_id'' dH_e l
theorem eSs_len (a : List W) : (eSs a).length = a.length := List.length_map ..
theorem eHs_len (a : List Hk) : (eHs a).length = a.length := List.length_map ..
theorem eSs_at {a : List W} {i : Nat} (h : i < a.length) : atL (eSs a) (i : Int) = eS (a.getD i []) := atL_map _ a i [] h
theorem eHs_at {a : List Hk} {i : Nat} (h : i < a.length) : atL (eHs a) (i : Int) = eH (a.getD i default) := atL_map _ a i default h
theorem cT_e (l : W) : cT 0 (eS l) = mk l := rfl
theorem cI0_e (h : Hk) : cI 0 (eH h) = h.fr := rfl
theorem cI1_e (h : Hk) : cI 1 (eH h) = h.to := rfl
theorem cX2_e (h : Hk) : cX 2 (eH h) = eSs h.ls := rfl
theorem eSs_app (a b : List W) : eSs a ++ eSs b = eSs (a ++ b) := (List.map_append ..).symm
theorem eHs_app (a b : List Hk) : eHs a ++ eHs b = eHs (a ++ b) := (List.map_append ..).symm
theorem eSs_take (a : List W) (n : Nat) : (eSs a).take n = eSs (a.take n) := (List.map_take ..).symm
theorem eSs_drop (a : List W) (n : Nat) : (eSs a).drop n = eSs (a.drop n) := (List.map_drop ..).symm
theorem eSs_nil : ([] : List (List L)) = eSs [] := rfl
theorem eHs_nil : ([] : List (List L)) = eHs [] := rfl
theorem eHs_one (h : Hk) : [eH h] = eHs [h] := rfl
theorem eH_eq (a b : Int) (ls : List W) : ([.int .i64 a, .int .i64 b, .lst 9 (eSs ls)] : List L) = eH ⟨a, b, ls⟩ := rfl
theorem eS_eq (l : W) : ([.str (mk l)] : List L) = eS l := rfl

open Classical in
noncomputable def isSs (xs : List (List L)) : Bool := decide (eSs (dSs xs) = xs)
open Classical in
noncomputable def isHs (xs : List (List L)) : Bool := decide (eHs (dHs xs) = xs)
theorem isSs_e (a : List W) : isSs (eSs a) = true := by
  unfold isSs
  rw [dSs_e]
  simp
theorem isHs_e (a : List Hk) : isHs (eHs a) = true := by
  unfold isHs
  rw [dHs_e]
  simp
theorem isSs_of {xs : List (List L)} (h : isSs xs = true) : ∃ a, xs = eSs a := by
  unfold isSs at h
  have h' : eSs (dSs xs) = xs := by simpa using h
  exact ⟨_, h'.symm⟩
theorem isHs_of {xs : List (List L)} (h : isHs xs = true) : ∃ a, xs = eHs a := by
  unfold isHs at h
  have h' : eHs (dHs xs) = xs := by simpa using h
  exact ⟨_, h'.symm⟩

theorem RunsF.cond {C : Cfg} {c : Bool} {F1 F2 : (Req → R) → R} {r : List L} (h1 : c = true → RunsF C F1 r) (h2 : c = false → RunsF C F2 r) : RunsF C (fun G => cond c (F1 G) (F2 G)) r := by
  cases c
  · exact h2 rfl
  · exact h1 rfl
theorem ltI_t {a b : Int} (h : ltI a b = true) : a < b := by simpa using h
theorem ltI_f {a b : Int} (h : ltI a b = false) : b ≤ a := by simpa using h
theorem leI_t {a b : Int} (h : leI a b = true) : a ≤ b := by simpa using h
theorem leI_f {a b : Int} (h : leI a b = false) : b < a := by simpa using h
theorem both_eq {a b : R} (h : a = b) : both a b = b := by rw [h, both_self]

/-! ### forms of contracts -/
noncomputable def conS (g : List W → Bool) (f : List W → List L) : Con
  | [.lf (.lst 9 xs)], [] => some (isSs xs && (g (dSs xs)), f (dSs xs))
  | _, _ => none
theorem conS_of {ks : List (Nat × Con)} {n : Nat} {g : List W → Bool} {f : List W → List L} (hx : ∀ p ∈ ks, Holds p) (h : ∀ (x : List W), g x = true → Runs (cfg ks) (.enter n [.lf (.lst 9 (eSs x))] []) (f x)) : Holds (n, conS g f) :=
  con_run hx fun aa hp r h0 => by
    unfold conS at h0
    split at h0
    · obtain ⟨g0, rfl⟩ := xo h0
      simp only [Bool.and_eq_true] at g0
      obtain ⟨q0, g0⟩ := g0
      obtain ⟨x, rfl⟩ := isSs_of q0
      simp only [dSs_e] at g0 ⊢
      exact h _ g0
    · cases h0
noncomputable def conSS (g : List W → List W → Bool) (f : List W → List W → List L) : Con
  | [.lf (.lst 9 xs), .lf (.lst 9 ys)], [] => some (isSs xs && (isSs ys && (g (dSs xs) (dSs ys))), f (dSs xs) (dSs ys))
  | _, _ => none
theorem conSS_of {ks : List (Nat × Con)} {n : Nat} {g : List W → List W → Bool} {f : List W → List W → List L} (hx : ∀ p ∈ ks, Holds p) (h : ∀ (x : List W) (y : List W), g x y = true → Runs (cfg ks) (.enter n [.lf (.lst 9 (eSs x)), .lf (.lst 9 (eSs y))] []) (f x y)) : Holds (n, conSS g f) :=
  con_run hx fun aa hp r h0 => by
    unfold conSS at h0
    split at h0
    · obtain ⟨g0, rfl⟩ := xo h0
      simp only [Bool.and_eq_true] at g0
      obtain ⟨q0, g0⟩ := g0
      obtain ⟨x, rfl⟩ := isSs_of q0
      obtain ⟨q1, g0⟩ := g0
      obtain ⟨y, rfl⟩ := isSs_of q1
      simp only [dSs_e] at g0 ⊢
      exact h _ _ g0
    · cases h0
noncomputable def conSSS (g : List W → List W → List W → Bool) (f : List W → List W → List W → List L) : Con
  | [.lf (.lst 9 xs), .lf (.lst 9 ys), .lf (.lst 9 zs)], [] => some (isSs xs && (isSs ys && (isSs zs && (g (dSs xs) (dSs ys) (dSs zs)))), f (dSs xs) (dSs ys) (dSs zs))
  | _, _ => none
theorem conSSS_of {ks : List (Nat × Con)} {n : Nat} {g : List W → List W → List W → Bool} {f : List W → List W → List W → List L} (hx : ∀ p ∈ ks, Holds p) (h : ∀ (x : List W) (y : List W) (z : List W), g x y z = true → Runs (cfg ks) (.enter n [.lf (.lst 9 (eSs x)), .lf (.lst 9 (eSs y)), .lf (.lst 9 (eSs z))] []) (f x y z)) : Holds (n, conSSS g f) :=
  con_run hx fun aa hp r h0 => by
    unfold conSSS at h0
    split at h0
    · obtain ⟨g0, rfl⟩ := xo h0
      simp only [Bool.and_eq_true] at g0
      obtain ⟨q0, g0⟩ := g0
      obtain ⟨x, rfl⟩ := isSs_of q0
      obtain ⟨q1, g0⟩ := g0
      obtain ⟨y, rfl⟩ := isSs_of q1
      obtain ⟨q2, g0⟩ := g0
      obtain ⟨z, rfl⟩ := isSs_of q2
      simp only [dSs_e] at g0 ⊢
      exact h _ _ _ g0
    · cases h0
noncomputable def conH (g : List Hk → Bool) (f : List Hk → List L) : Con
  | [.lf (.lst 46 xs)], [] => some (isHs xs && (g (dHs xs)), f (dHs xs))
  | _, _ => none
theorem conH_of {ks : List (Nat × Con)} {n : Nat} {g : List Hk → Bool} {f : List Hk → List L} (hx : ∀ p ∈ ks, Holds p) (h : ∀ (x : List Hk), g x = true → Runs (cfg ks) (.enter n [.lf (.lst 46 (eHs x))] []) (f x)) : Holds (n, conH g f) :=
  con_run hx fun aa hp r h0 => by
    unfold conH at h0
    split at h0
    · obtain ⟨g0, rfl⟩ := xo h0
      simp only [Bool.and_eq_true] at g0
      obtain ⟨q0, g0⟩ := g0
      obtain ⟨x, rfl⟩ := isHs_of q0
      simp only [dHs_e] at g0 ⊢
      exact h _ g0
    · cases h0
noncomputable def conHH (g : List Hk → List Hk → Bool) (f : List Hk → List Hk → List L) : Con
  | [.lf (.lst 46 xs), .lf (.lst 46 ys)], [] => some (isHs xs && (isHs ys && (g (dHs xs) (dHs ys))), f (dHs xs) (dHs ys))
  | _, _ => none
theorem conHH_of {ks : List (Nat × Con)} {n : Nat} {g : List Hk → List Hk → Bool} {f : List Hk → List Hk → List L} (hx : ∀ p ∈ ks, Holds p) (h : ∀ (x : List Hk) (y : List Hk), g x y = true → Runs (cfg ks) (.enter n [.lf (.lst 46 (eHs x)), .lf (.lst 46 (eHs y))] []) (f x y)) : Holds (n, conHH g f) :=
  con_run hx fun aa hp r h0 => by
    unfold conHH at h0
    split at h0
    · obtain ⟨g0, rfl⟩ := xo h0
      simp only [Bool.and_eq_true] at g0
      obtain ⟨q0, g0⟩ := g0
      obtain ⟨x, rfl⟩ := isHs_of q0
      obtain ⟨q1, g0⟩ := g0
      obtain ⟨y, rfl⟩ := isHs_of q1
      simp only [dHs_e] at g0 ⊢
      exact h _ _ g0
    · cases h0
noncomputable def conSH (g : List W → List Hk → Bool) (f : List W → List Hk → List L) : Con
  | [.lf (.lst 9 xs), .lf (.lst 46 ys)], [] => some (isSs xs && (isHs ys && (g (dSs xs) (dHs ys))), f (dSs xs) (dHs ys))
  | _, _ => none
theorem conSH_of {ks : List (Nat × Con)} {n : Nat} {g : List W → List Hk → Bool} {f : List W → List Hk → List L} (hx : ∀ p ∈ ks, Holds p) (h : ∀ (x : List W) (y : List Hk), g x y = true → Runs (cfg ks) (.enter n [.lf (.lst 9 (eSs x)), .lf (.lst 46 (eHs y))] []) (f x y)) : Holds (n, conSH g f) :=
  con_run hx fun aa hp r h0 => by
    unfold conSH at h0
    split at h0
    · obtain ⟨g0, rfl⟩ := xo h0
      simp only [Bool.and_eq_true] at g0
      obtain ⟨q0, g0⟩ := g0
      obtain ⟨x, rfl⟩ := isSs_of q0
      obtain ⟨q1, g0⟩ := g0
      obtain ⟨y, rfl⟩ := isHs_of q1
      simp only [dSs_e, dHs_e] at g0 ⊢
      exact h _ _ g0
    · cases h0
noncomputable def conHI (g : List Hk → Int → Bool) (f : List Hk → Int → List L) : Con
  | [.lf (.lst 46 xs), .lf (.int .i64 ys)], [] => some (isHs xs && (g (dHs xs) ys), f (dHs xs) ys)
  | _, _ => none
theorem conHI_of {ks : List (Nat × Con)} {n : Nat} {g : List Hk → Int → Bool} {f : List Hk → Int → List L} (hx : ∀ p ∈ ks, Holds p) (h : ∀ (x : List Hk) (y : Int), g x y = true → Runs (cfg ks) (.enter n [.lf (.lst 46 (eHs x)), .lf (.int .i64 y)] []) (f x y)) : Holds (n, conHI g f) :=
  con_run hx fun aa hp r h0 => by
    unfold conHI at h0
    split at h0
    · obtain ⟨g0, rfl⟩ := xo h0
      simp only [Bool.and_eq_true] at g0
      obtain ⟨q0, g0⟩ := g0
      obtain ⟨x, rfl⟩ := isHs_of q0
      simp only [dHs_e] at g0 ⊢
      exact h _ _ g0
    · cases h0
noncomputable def conT (g : W → Bool) (f : W → List L) : Con
  | [.lf (.str xs)], [] => some (g (bl xs), f (bl xs))
  | _, _ => none
theorem conT_of {ks : List (Nat × Con)} {n : Nat} {g : W → Bool} {f : W → List L} (hx : ∀ p ∈ ks, Holds p) (h : ∀ (x : W), g x = true → Runs (cfg ks) (.enter n [.lf (.str (mk x))] []) (f x)) : Holds (n, conT g f) :=
  con_run hx fun aa hp r h0 => by
    unfold conT at h0
    split at h0
    · obtain ⟨g0, rfl⟩ := xo h0
      exact h (bl _) g0
    · cases h0
noncomputable def conSIT (g : List W → Int → W → Bool) (f : List W → Int → W → List L) : Con
  | [.lf (.lst 9 xs), .lf (.int .i64 ys), .lf (.str zs)], [] => some (isSs xs && (g (dSs xs) ys (bl zs)), f (dSs xs) ys (bl zs))
  | _, _ => none
theorem conSIT_of {ks : List (Nat × Con)} {n : Nat} {g : List W → Int → W → Bool} {f : List W → Int → W → List L} (hx : ∀ p ∈ ks, Holds p) (h : ∀ (x : List W) (y : Int) (z : W), g x y z = true → Runs (cfg ks) (.enter n [.lf (.lst 9 (eSs x)), .lf (.int .i64 y), .lf (.str (mk z))] []) (f x y z)) : Holds (n, conSIT g f) :=
  con_run hx fun aa hp r h0 => by
    unfold conSIT at h0
    split at h0
    · obtain ⟨g0, rfl⟩ := xo h0
      simp only [Bool.and_eq_true] at g0
      obtain ⟨q0, g0⟩ := g0
      obtain ⟨x, rfl⟩ := isSs_of q0
      simp only [dSs_e] at g0 ⊢
      exact h _ _ (bl _) g0
    · cases h0
noncomputable def conSI (g : List W → Int → Bool) (f : List W → Int → List L) : Con
  | [.lf (.lst 9 xs), .lf (.int .i64 ys)], [] => some (isSs xs && (g (dSs xs) ys), f (dSs xs) ys)
  | _, _ => none
theorem conSI_of {ks : List (Nat × Con)} {n : Nat} {g : List W → Int → Bool} {f : List W → Int → List L} (hx : ∀ p ∈ ks, Holds p) (h : ∀ (x : List W) (y : Int), g x y = true → Runs (cfg ks) (.enter n [.lf (.lst 9 (eSs x)), .lf (.int .i64 y)] []) (f x y)) : Holds (n, conSI g f) :=
  con_run hx fun aa hp r h0 => by
    unfold conSI at h0
    split at h0
    · obtain ⟨g0, rfl⟩ := xo h0
      simp only [Bool.and_eq_true] at g0
      obtain ⟨q0, g0⟩ := g0
      obtain ⟨x, rfl⟩ := isSs_of q0
      simp only [dSs_e] at g0 ⊢
      exact h _ _ g0
    · cases h0
noncomputable def conTI (g : W → Int → Bool) (f : W → Int → List L) : Con
  | [.lf (.str xs), .lf (.int .i64 ys)], [] => some (g (bl xs) ys, f (bl xs) ys)
  | _, _ => none
theorem conTI_of {ks : List (Nat × Con)} {n : Nat} {g : W → Int → Bool} {f : W → Int → List L} (hx : ∀ p ∈ ks, Holds p) (h : ∀ (x : W) (y : Int), g x y = true → Runs (cfg ks) (.enter n [.lf (.str (mk x)), .lf (.int .i64 y)] []) (f x y)) : Holds (n, conTI g f) :=
  con_run hx fun aa hp r h0 => by
    unfold conTI at h0
    split at h0
    · obtain ⟨g0, rfl⟩ := xo h0
      exact h (bl _) _ g0
    · cases h0
end Go.Ab
namespace Go.Ab
open Go.Proofs

def lcsR (x : W) (pr : List W → Nat) : List W → Nat
  | [] => 0
  | y :: b => if x = y then pr b + 1 else max (pr (y :: b)) (lcsR x pr b)
def lcs : List W → List W → Nat
  | [] => fun _ => 0
  | x :: a => lcsR x (lcs a)
theorem lcs_nil (b : List W) : lcs [] b = 0 := rfl
theorem lcs_nil' : ∀ a : List W, lcs a [] = 0
  | [] => rfl
  | _ :: _ => rfl
theorem lcs_cons (x y : W) (a b : List W) : lcs (x :: a) (y :: b) = if x = y then lcs a b + 1 else max (lcs a (y :: b)) (lcs (x :: a) b) := rfl
theorem lcs_all : ∀ a : List W, (∀ b x, lcs (x :: a) b ≤ lcs a b + 1) ∧ (∀ b y, lcs a (y :: b) ≤ lcs a b + 1) ∧ (∀ b x, lcs a b ≤ lcs (x :: a) b) ∧ (∀ b y, lcs a b ≤ lcs a (y :: b))
  | [] => by
    refine ⟨fun b x => ?_, fun b y => by simp [lcs_nil], fun b x => by simp [lcs_nil], fun b y => by simp [lcs_nil]⟩
    induction b with
    | nil => simp [lcs_nil']
    | cons y b ih =>
      rw [lcs_cons]
      simp only [lcs_nil] at ih ⊢
      split <;> omega
  | x0 :: a => by
    obtain ⟨s1, s2, m1, m2⟩ := lcs_all a
    have S2 : ∀ b y, lcs (x0 :: a) (y :: b) ≤ lcs (x0 :: a) b + 1 := by
      intro b y
      rw [lcs_cons]
      have h1 := m1 b x0
      have h2 := s2 b y
      split <;> omega
    have M2 : ∀ b y, lcs (x0 :: a) b ≤ lcs (x0 :: a) (y :: b) := by
      intro b y
      rw [lcs_cons]
      have h1 := s1 b x0
      split <;> omega
    refine ⟨fun b x => ?_, S2, fun b x => ?_, M2⟩
    · induction b with
      | nil => simp [lcs_nil']
      | cons y b ih =>
        rw [lcs_cons x]
        have := M2 b y
        split <;> omega
    · cases b with
      | nil => simp [lcs_nil']
      | cons y b =>
        rw [lcs_cons x]
        have := S2 b y
        split <;> omega
theorem lcs_s1 (x : W) (a b : List W) : lcs (x :: a) b ≤ lcs a b + 1 := (lcs_all a).1 b x
theorem lcs_s2 (y : W) (a b : List W) : lcs a (y :: b) ≤ lcs a b + 1 := (lcs_all a).2.1 b y
theorem lcs_m1 (x : W) (a b : List W) : lcs a b ≤ lcs (x :: a) b := (lcs_all a).2.2.1 b x
theorem lcs_m2 (y : W) (a b : List W) : lcs a b ≤ lcs a (y :: b) := (lcs_all a).2.2.2 b y
theorem lcs_le : ∀ a b : List W, lcs a b ≤ a.length
  | [], b => by simp [lcs_nil]
  | x :: a, b => by
    have := lcs_le a b
    have := lcs_s1 x a b
    simp only [List.length_cons]
    omega
theorem lcs_eq (x y : W) (a b : List W) (h : x = y) : lcs (x :: a) (y :: b) = lcs a b + 1 := by rw [lcs_cons, if_pos h]
theorem lcs_ne (x y : W) (a b : List W) (h : x ≠ y) : lcs (x :: a) (y :: b) = max (lcs a (y :: b)) (lcs (x :: a) b) := by rw [lcs_cons, if_neg h]

/-! ### tables -/
theorem set_range {α : Type} (f : Nat → α) (n k : Nat) (v : α) : ((List.range n).map f).set k v = (List.range n).map fun i => if i = k then v else f i := by
  apply List.ext_getElem?
  intro i
  rw [List.getElem?_set]
  simp only [List.getElem?_map, List.length_map, List.length_range]
  by_cases h : i < n
  · rw [List.getElem?_range h]
    by_cases e : k = i
    · subst e; simp [h]
    · simp [e]
      intro h'
      exact absurd h'.symm e
  · rw [List.getElem?_eq_none (by simpa using h)]
    by_cases e : k = i
    · subst e; simp [h]
    · simp [e]
theorem getD_range {α : Type} (f : Nat → α) {n k : Nat} (d : α) (h : k < n) : ((List.range n).map f).getD k d = f k := by simp [List.getD, h]
theorem rep_range {α : Type} (n : Nat) (v : α) : List.replicate n v = (List.range n).map fun _ => v := by
  rw [List.map_const', List.length_range]

def lv (a b : List W) (p q : Nat) : Int := (lcs (a.drop p) (b.drop q) : Nat)
def cellsF (m : Nat) (f : Nat → Int) : List (List L) := (List.range m).map fun q => [.int .i64 (f q)]
def matF (n m : Nat) (f : Nat → Nat → Int) : List (List (List L)) := (List.range n).map fun p => cellsF m (f p)
theorem matF_len (n m : Nat) (f) : (matF n m f).length = n := by simp [matF]
theorem cellsF_len (m : Nat) (f) : (cellsF m f).length = m := by simp [cellsF]
theorem matF_row {n m : Nat} {f} {p : Nat} (h : p < n) : List.getD (matF n m f) p [] = cellsF m (f p) := getD_range _ _ h
theorem cellsF_at {m : Nat} {f} {q : Nat} (h : q < m) : atL (cellsF m f) (q : Int) = [.int .i64 (f q)] := by
  unfold atL cellsF
  rw [Int.toNat_natCast]
  exact getD_range _ _ h
theorem cI_one (v : Int) : cI 0 [L.int .i64 v] = v := rfl
theorem splice_one (u v : Int) : splice 0 [L.int .i64 u] [L.int .i64 v] = [L.int .i64 u] := rfl
theorem matF_set {n m : Nat} {f : Nat → Nat → Int} {p q : Nat} (v : Int) (hp : p < n) : (matF n m f).set p ((cellsF m (f p)).set q [.int .i64 v]) = matF n m (fun i j => if i = p ∧ j = q then v else f i j) := by
  unfold matF
  rw [set_range]
  refine List.map_congr_left fun i hi => ?_
  unfold cellsF
  rw [set_range]
  split
  · rename_i e
    subst e
    refine List.map_congr_left fun j hj => ?_
    by_cases ej : j = q
    · simp [ej]
    · simp [ej]
  · rename_i e
    simp [e]
theorem matF_congr {n m : Nat} {f g : Nat → Nat → Int} (h : ∀ i j, i < n → j < m → f i j = g i j) : matF n m f = matF n m g := by
  unfold matF cellsF
  refine List.map_congr_left fun i hi => List.map_congr_left fun j hj => ?_
  rw [h i j (by simpa using hi) (by simpa using hj)]
/-- The table, filled from the end down to row i, column j (the rest is zero). -/
def mz (a b : List W) (i j : Int) : List (List (List L)) := matF (a.length + 1) (b.length + 1) fun p q => if (p : Int) > i ∨ ((p : Int) = i ∧ (q : Int) > j) then lv a b p q else 0
theorem mz_len (a b i j) : (mz a b i j).length = a.length + 1 := matF_len ..
theorem mz_row {a b i j} {p : Nat} (h : p < a.length + 1) : List.getD (mz a b i j) p [] = cellsF (b.length + 1) fun q => if (p : Int) > i ∨ ((p : Int) = i ∧ (q : Int) > j) then lv a b p q else 0 := matF_row h
theorem mz_set {a b : List W} {i j : Nat} (hi : i < a.length) (hj : j < b.length) :
    (mz a b i j).set i ((cellsF (b.length + 1) fun q => if (i : Int) > i ∨ ((i : Int) = i ∧ (q : Int) > j) then lv a b i q else 0).set j [.int .i64 (lv a b i j)]) = mz a b i ((j : Int) - 1) := by
  unfold mz
  rw [matF_set (f := fun p q => if (p : Int) > i ∨ ((p : Int) = i ∧ (q : Int) > j) then lv a b p q else 0) _ (by omega)]
  refine matF_congr fun p q hp hq => ?_
  by_cases h : p = i ∧ q = j
  · obtain ⟨rfl, rfl⟩ := h
    rw [if_pos ⟨rfl, rfl⟩, if_pos (by omega)]
  · rw [if_neg h]
    by_cases h2 : (p : Int) > i ∨ ((p : Int) = i ∧ (q : Int) > j)
    · rw [if_pos h2, if_pos (by omega)]
    · rw [if_neg h2, if_neg (by omega)]
theorem lv_end1 (a b : List W) (q : Nat) : lv a b a.length q = 0 := by simp [lv, lcs_nil]
theorem lv_end2 (a b : List W) (p : Nat) : lv a b p b.length = 0 := by simp [lv, lcs_nil']
theorem mz_next (a b : List W) (i : Int) : mz a b i (-1) = mz a b (i - 1) ((b.length : Int) - 1) := by
  unfold mz
  refine matF_congr fun p q hp hq => ?_
  by_cases h : (p : Int) ≥ i
  · rw [if_pos (by omega)]
    by_cases h2 : (p : Int) > i - 1
    · rw [if_pos (by omega)]
    · omega
  · rw [if_neg (by omega)]
    by_cases h2 : (p : Int) = i - 1 ∧ q = b.length
    · rw [if_pos (by omega)]
      obtain ⟨_, rfl⟩ := h2
      rw [lv_end2]
    · rw [if_neg (by omega)]
theorem mz_start (a b : List W) : matF (a.length + 1) (b.length + 1) (fun _ _ => 0) = mz a b ((a.length : Int) - 1) ((b.length : Int) - 1) := by
  unfold mz
  refine matF_congr fun p q hp hq => ?_
  by_cases h : p = a.length
  · subst h
    rw [lv_end1]
    split <;> rfl
  · by_cases h2 : q = b.length
    · subst h2
      rw [lv_end2]
      split <;> rfl
    · rw [if_neg (by omega)]
theorem lv_step {a b : List W} {i j : Nat} (hi : i < a.length) (hj : j < b.length) :
    lv a b i j = if a.getD i [] = b.getD j [] then lv a b (i + 1) (j + 1) + 1 else max (lv a b (i + 1) j) (lv a b i (j + 1)) := by
  unfold lv
  have ea : a.drop i = a.getD i [] :: a.drop (i + 1) := by rw [List.drop_eq_getElem_cons hi]; simp [List.getD, hi]
  have eb : b.drop j = b.getD j [] :: b.drop (j + 1) := by rw [List.drop_eq_getElem_cons hj]; simp [List.getD, hj]
  rw [ea, eb, lcs_cons]
  split <;> omega
theorem lv_lo (a b : List W) (p q : Nat) : 0 ≤ lv a b p q := Int.natCast_nonneg _
theorem lv_hi (a b : List W) (p q : Nat) : lv a b p q ≤ a.length := by
  unfold lv
  have := lcs_le (a.drop p) (b.drop q)
  rw [List.length_drop] at this
  omega
/-- The whole table as a told slice. -/
def tabL (a b : List W) : List (List L) := (mz a b (-1) ((b.length : Int) - 1)).map fun ys => [L.lst 3 ys]
end Go.Ab
namespace Go.Ab
open Go.Proofs
/-! codesearch/codesearchref23.next -/
noncomputable def next_q1 (b0 : List (List L)) (j1 : Int) (line2 : ByteArray) : Req := .point 39 [] (todoAt Tryd.prog 39 1) ⟨[(.lf (.lst 9 b0)), (.lf (.int IntKind.i64 j1)), (.lf (.str line2)), an, an, an, an, an, an, an, an, an, an, an, an, an, an, an, an, an, an, an], []⟩
theorem next_e (G : Req → R) (b0 : List (List L)) (j1 : Int) (line2 : ByteArray) : runB (cfg []) G (.enter 39 [(.lf (.lst 9 b0)), (.lf (.int IntKind.i64 (j1))), (.lf (.str (line2)))] []) =
  (G (next_q1 b0 j1 line2)) := by kernel_rfl
theorem next_p1 (G : Req → R) (b0 : List (List L)) (j1 : Int) (line2 : ByteArray) : runB (cfg []) G (next_q1 b0 j1 line2) =
  (cond (ltI j1 (↑(List.length b0) : Int))
   (cond (leI 0 j1 && ltI j1 (↑(List.length b0) : Int))
    (cond (!bl (cT 0 (atL b0 j1)) == bl line2)
     (G (next_q1 b0 (wrapI IntKind.i64 (j1 + 1)) line2))
     (some [(.int IntKind.i64 (j1))]))
    none)
   (some [(.int IntKind.i64 (j1))])) := by kernel_rfl

/-! codesearch/codesearchlaw23.few -/
noncomputable def few_q4 (l0 : List (List L)) (i3 : Int) : Req := .point 12 [] (todoAt Tryd.prog 12 4) ⟨[(.lf (.lst 9 l0)), an, an, (.lf (.int IntKind.i64 i3)), an, an, an, an, an, an, an, an, an, an, an, an, an, an, an], []⟩
theorem few_e (G : Req → R) (l0 : List (List L)) : runB (cfg []) G (.enter 12 [(.lf (.lst 9 l0))] []) =
  (cond (ltI 40 (↑(List.length l0) : Int))
   (some [(.bool (false))])
   (G (few_q4 l0 0))) := by kernel_rfl
theorem few_p4 (G : Req → R) (l0 : List (List L)) (i3 : Int) : runB (cfg []) G (few_q4 l0 i3) =
  (cond (ltI i3 (↑(List.length l0) : Int))
   (cond (leI 0 i3 && ltI i3 (↑(List.length l0) : Int))
    (cond (ltI 200 (↑(ByteArray.size (cT 0 (atL l0 i3))) : Int))
     (some [(.bool (false))])
     (G (few_q4 l0 (wrapI IntKind.i64 (i3 + 1)))))
    none)
   (some [(.bool (true))])) := by kernel_rfl

/-! codesearch/diff.lengths -/
noncomputable def lens_q3 (a0 : List (List L)) (b1 : List (List L)) (x14 : Int) (x15 : Int) (h0 : List (List (List L))) : Req := .point 54 [] (todoAt Tryd.prog 54 3) ⟨[(.lf (.lst 9 a0)), (.lf (.lst 9 b1)), an, an, an, (.lf (.mat 0)), an, an, an, an, an, an, an, an, (.lf (.int IntKind.i64 x14)), (.lf (.int IntKind.i64 x15)), an, an, an, an, an, an, an, an, an, an, an, an, an, an, an, an, an, an, an, an, an, an, an, an, an, an, an, an, an, an, an, an, an, an, an, an, an, an, an, an, an, an, an, an, an, an, an, an, an, an, an, an, an, an, an, an, an, an, an, an, an, an, an, an, an, an, an, an, an, an, an, an, an], [(.mat 54 3 h0)]⟩
noncomputable def lens_q8 (a0 : List (List L)) (b1 : List (List L)) (i7 : Int) (h0 : List (List (List L))) : Req := .point 54 [] (todoAt Tryd.prog 54 8) ⟨[(.lf (.lst 9 a0)), (.lf (.lst 9 b1)), an, an, an, (.lf (.mat 0)), an, (.lf (.int IntKind.i64 i7)), an, an, an, an, an, an, an, an, an, an, an, an, an, an, an, an, an, an, an, an, an, an, an, an, an, an, an, an, an, an, an, an, an, an, an, an, an, an, an, an, an, an, an, an, an, an, an, an, an, an, an, an, an, an, an, an, an, an, an, an, an, an, an, an, an, an, an, an, an, an, an, an, an, an, an, an, an, an, an, an, an], [(.mat 54 3 h0)]⟩
noncomputable def lens_q11 (a0 : List (List L)) (b1 : List (List L)) (i7 : Int) (j8 : Int) (h0 : List (List (List L))) : Req := .point 54 [] (todoAt Tryd.prog 54 11) ⟨[(.lf (.lst 9 a0)), (.lf (.lst 9 b1)), an, an, an, (.lf (.mat 0)), an, (.lf (.int IntKind.i64 i7)), (.lf (.int IntKind.i64 j8)), an, an, an, an, an, an, an, an, an, an, an, an, an, an, an, an, an, an, an, an, an, an, an, an, an, an, an, an, an, an, an, an, an, an, an, an, an, an, an, an, an, an, an, an, an, an, an, an, an, an, an, an, an, an, an, an, an, an, an, an, an, an, an, an, an, an, an, an, an, an, an, an, an, an, an, an, an, an, an, an], [(.mat 54 3 h0)]⟩
theorem lens_e (G : Req → R) (a0 : List (List L)) (b1 : List (List L)) : runB (cfg []) G (.enter 54 [(.lf (.lst 9 a0)), (.lf (.lst 9 b1))] []) =
  (cond (leI 0 (wrapI IntKind.i64 ((↑(List.length a0) : Int) + 1)) && leI (wrapI IntKind.i64 ((↑(List.length a0) : Int) + 1)) (wrapI IntKind.i64 ((↑(List.length a0) : Int) + 1)) && (leI (wrapI IntKind.i64 ((↑(List.length a0) : Int) + 1) * (↑24 : Int)) 140737488355328 && leI (wrapI IntKind.i64 ((↑(List.length a0) : Int) + 1)) 140737488355328))
   (G (lens_q3 a0 b1 ((↑(List.length (matZ (Int.toNat (wrapI IntKind.i64 ((↑(List.length a0) : Int) + 1))))) : Int)) 0 (matZ (Int.toNat (wrapI IntKind.i64 ((↑(List.length a0) : Int) + 1))))))
   none) := by kernel_rfl
theorem lens_p3 (G : Req → R) (a0 : List (List L)) (b1 : List (List L)) (x14 : Int) (x15 : Int) (h0 : List (List (List L))) : runB (cfg []) G (lens_q3 a0 b1 x14 x15 h0) =
  (cond (ltI x15 x14)
   (cond (leI 0 (wrapI IntKind.i64 ((↑(List.length b1) : Int) + 1)) && leI (wrapI IntKind.i64 ((↑(List.length b1) : Int) + 1)) (wrapI IntKind.i64 ((↑(List.length b1) : Int) + 1)) && (leI (wrapI IntKind.i64 ((↑(List.length b1) : Int) + 1) * (↑8 : Int)) 140737488355328 && leI (wrapI IntKind.i64 ((↑(List.length b1) : Int) + 1)) 140737488355328))
    (cond (leI 0 x15 && ltI x15 (↑(List.length h0) : Int))
     (cond (leI 1 (↑(List.length (List.replicate (Int.toNat (wrapI IntKind.i64 ((↑(List.length b1) : Int) + 1))) [L.int IntKind.i64 0])) : Int))
      (G (lens_q3 a0 b1 x14 (wrapI IntKind.i64 (x15 + 1)) (List.set h0 (Int.toNat x15) (List.replicate (Int.toNat (wrapI IntKind.i64 ((↑(List.length b1) : Int) + 1))) [L.int IntKind.i64 0]))))
      none)
     none)
    none)
   (G (lens_q8 a0 b1 (wrapI IntKind.i64 ((↑(List.length a0) : Int) - 1)) h0))) := by kernel_rfl
theorem lens_p8 (G : Req → R) (a0 : List (List L)) (b1 : List (List L)) (i7 : Int) (h0 : List (List (List L))) : runB (cfg []) G (lens_q8 a0 b1 i7 h0) =
  (cond (leI 0 i7)
   (G (lens_q11 a0 b1 i7 (wrapI IntKind.i64 ((↑(List.length b1) : Int) - 1)) h0))
   (some [(.lst 54 (List.map (fun ys => [L.lst 3 ys]) h0))])) := by kernel_rfl
theorem lens_p11 (G : Req → R) (a0 : List (List L)) (b1 : List (List L)) (i7 : Int) (j8 : Int) (h0 : List (List (List L))) : runB (cfg []) G (lens_q11 a0 b1 i7 j8 h0) =
  (cond (leI 0 j8)
   (cond (leI 0 i7 && ltI i7 (↑(List.length a0) : Int))
    (cond (leI 0 j8 && ltI j8 (↑(List.length b1) : Int))
     (cond (bl (cT 0 (atL a0 i7)) == bl (cT 0 (atL b1 j8)))
      (cond (leI 0 i7 && ltI i7 (↑(List.length h0) : Int))
       (cond (leI 0 (wrapI IntKind.i64 (i7 + 1)) && ltI (wrapI IntKind.i64 (i7 + 1)) (↑(List.length h0) : Int))
        (cond (leI 0 (wrapI IntKind.i64 (j8 + 1)) && ltI (wrapI IntKind.i64 (j8 + 1)) (↑(List.length (List.getD h0 (Int.toNat (wrapI IntKind.i64 (i7 + 1))) [])) : Int))
         (cond (leI 0 j8 && ltI j8 (↑(List.length (List.getD h0 (Int.toNat i7) [])) : Int))
          (G (lens_q11 a0 b1 i7 (wrapI IntKind.i64 (j8 - 1)) (List.set h0 (Int.toNat i7) (List.set (List.getD h0 (Int.toNat i7) []) (Int.toNat j8) (splice 0 [L.int IntKind.i64 (wrapI IntKind.i64 (cI 0 (atL (List.getD h0 (Int.toNat (wrapI IntKind.i64 (i7 + 1))) []) (wrapI IntKind.i64 (j8 + 1))) + 1))] (atL (List.getD h0 (Int.toNat i7) []) j8))))))
          none)
         none)
        none)
       none)
      (cond (leI 0 i7 && ltI i7 (↑(List.length h0) : Int))
       (cond (leI 0 (wrapI IntKind.i64 (i7 + 1)) && ltI (wrapI IntKind.i64 (i7 + 1)) (↑(List.length h0) : Int))
        (cond (leI 0 i7 && ltI i7 (↑(List.length h0) : Int))
         (cond (leI 0 j8 && ltI j8 (↑(List.length (List.getD h0 (Int.toNat (wrapI IntKind.i64 (i7 + 1))) [])) : Int))
          (cond (leI 0 (wrapI IntKind.i64 (j8 + 1)) && ltI (wrapI IntKind.i64 (j8 + 1)) (↑(List.length (List.getD h0 (Int.toNat i7) [])) : Int))
           (cond (leI 0 j8 && ltI j8 (↑(List.length (List.getD h0 (Int.toNat i7) [])) : Int))
            (G (lens_q11 a0 b1 i7 (wrapI IntKind.i64 (j8 - 1)) (List.set h0 (Int.toNat i7) (List.set (List.getD h0 (Int.toNat i7) []) (Int.toNat j8) (splice 0 [L.int IntKind.i64 (if cI 0 (atL (List.getD h0 (Int.toNat i7) []) (wrapI IntKind.i64 (j8 + 1))) > cI 0 (atL (List.getD h0 (Int.toNat (wrapI IntKind.i64 (i7 + 1))) []) j8) then cI 0 (atL (List.getD h0 (Int.toNat i7) []) (wrapI IntKind.i64 (j8 + 1))) else cI 0 (atL (List.getD h0 (Int.toNat (wrapI IntKind.i64 (i7 + 1))) []) j8))] (atL (List.getD h0 (Int.toNat i7) []) j8))))))
            none)
           none)
          none)
         none)
        none)
       none))
     none)
    none)
   (G (lens_q8 a0 b1 (wrapI IntKind.i64 (i7 - 1)) h0))) := by kernel_rfl

/-! codesearch/codesearchref23.table -/
noncomputable def table_q3 (a0 : List (List L)) (b1 : List (List L)) (i6 : Int) (h0 : List (List (List L))) : Req := .point 38 [] (todoAt Tryd.prog 38 3) ⟨[(.lf (.lst 9 a0)), (.lf (.lst 9 b1)), an, an, an, (.lf (.mat 0)), (.lf (.int IntKind.i64 i6)), an, an, an, an, an, an, an, an, an, an, an, an, an, an, an, an, an, an, an, an, an, an, an, an, an, an, an, an, an, an, an, an, an, an, an, an, an, an, an, an, an, an, an, an, an, an, an, an, an, an, an, an, an, an, an, an, an, an, an, an, an, an, an, an, an, an, an, an, an, an, an, an, an, an, an, an, an, an, an, an, an, an, an, an, an, an, an, an, an, an, an, an, an, an, an, an, an, an, an, an, an], [(.mat 54 3 h0)]⟩
noncomputable def table_q7 (a0 : List (List L)) (b1 : List (List L)) (i7 : Int) (h0 : List (List (List L))) : Req := .point 38 [] (todoAt Tryd.prog 38 7) ⟨[(.lf (.lst 9 a0)), (.lf (.lst 9 b1)), an, an, an, (.lf (.mat 0)), an, (.lf (.int IntKind.i64 i7)), an, an, an, an, an, an, an, an, an, an, an, an, an, an, an, an, an, an, an, an, an, an, an, an, an, an, an, an, an, an, an, an, an, an, an, an, an, an, an, an, an, an, an, an, an, an, an, an, an, an, an, an, an, an, an, an, an, an, an, an, an, an, an, an, an, an, an, an, an, an, an, an, an, an, an, an, an, an, an, an, an, an, an, an, an, an, an, an, an, an, an, an, an, an, an, an, an, an, an, an], [(.mat 54 3 h0)]⟩
noncomputable def table_q10 (a0 : List (List L)) (b1 : List (List L)) (i7 : Int) (j8 : Int) (h0 : List (List (List L))) : Req := .point 38 [] (todoAt Tryd.prog 38 10) ⟨[(.lf (.lst 9 a0)), (.lf (.lst 9 b1)), an, an, an, (.lf (.mat 0)), an, (.lf (.int IntKind.i64 i7)), (.lf (.int IntKind.i64 j8)), an, an, an, an, an, an, an, an, an, an, an, an, an, an, an, an, an, an, an, an, an, an, an, an, an, an, an, an, an, an, an, an, an, an, an, an, an, an, an, an, an, an, an, an, an, an, an, an, an, an, an, an, an, an, an, an, an, an, an, an, an, an, an, an, an, an, an, an, an, an, an, an, an, an, an, an, an, an, an, an, an, an, an, an, an, an, an, an, an, an, an, an, an, an, an, an, an, an, an], [(.mat 54 3 h0)]⟩
theorem table_e (G : Req → R) (a0 : List (List L)) (b1 : List (List L)) : runB (cfg []) G (.enter 38 [(.lf (.lst 9 a0)), (.lf (.lst 9 b1))] []) =
  (cond (leI 0 (wrapI IntKind.i64 ((↑(List.length a0) : Int) + 1)) && leI (wrapI IntKind.i64 ((↑(List.length a0) : Int) + 1)) (wrapI IntKind.i64 ((↑(List.length a0) : Int) + 1)) && (leI (wrapI IntKind.i64 ((↑(List.length a0) : Int) + 1) * (↑24 : Int)) 140737488355328 && leI (wrapI IntKind.i64 ((↑(List.length a0) : Int) + 1)) 140737488355328))
   (G (table_q3 a0 b1 0 (matZ (Int.toNat (wrapI IntKind.i64 ((↑(List.length a0) : Int) + 1))))))
   none) := by kernel_rfl
theorem table_p3 (G : Req → R) (a0 : List (List L)) (b1 : List (List L)) (i6 : Int) (h0 : List (List (List L))) : runB (cfg []) G (table_q3 a0 b1 i6 h0) =
  (cond (leI i6 (↑(List.length a0) : Int))
   (cond (leI 0 (wrapI IntKind.i64 ((↑(List.length b1) : Int) + 1)) && leI (wrapI IntKind.i64 ((↑(List.length b1) : Int) + 1)) (wrapI IntKind.i64 ((↑(List.length b1) : Int) + 1)) && (leI (wrapI IntKind.i64 ((↑(List.length b1) : Int) + 1) * (↑8 : Int)) 140737488355328 && leI (wrapI IntKind.i64 ((↑(List.length b1) : Int) + 1)) 140737488355328))
    (cond (leI 0 i6 && ltI i6 (↑(List.length h0) : Int))
     (cond (leI 1 (↑(List.length (List.replicate (Int.toNat (wrapI IntKind.i64 ((↑(List.length b1) : Int) + 1))) [L.int IntKind.i64 0])) : Int))
      (G (table_q3 a0 b1 (wrapI IntKind.i64 (i6 + 1)) (List.set h0 (Int.toNat i6) (List.replicate (Int.toNat (wrapI IntKind.i64 ((↑(List.length b1) : Int) + 1))) [L.int IntKind.i64 0]))))
      none)
     none)
    none)
   (G (table_q7 a0 b1 (wrapI IntKind.i64 ((↑(List.length a0) : Int) - 1)) h0))) := by kernel_rfl
theorem table_p7 (G : Req → R) (a0 : List (List L)) (b1 : List (List L)) (i7 : Int) (h0 : List (List (List L))) : runB (cfg []) G (table_q7 a0 b1 i7 h0) =
  (cond (leI 0 i7)
   (G (table_q10 a0 b1 i7 (wrapI IntKind.i64 ((↑(List.length b1) : Int) - 1)) h0))
   (some [(.lst 54 (List.map (fun ys => [L.lst 3 ys]) h0))])) := by kernel_rfl
theorem table_p10 (G : Req → R) (a0 : List (List L)) (b1 : List (List L)) (i7 : Int) (j8 : Int) (h0 : List (List (List L))) : runB (cfg []) G (table_q10 a0 b1 i7 j8 h0) =
  (cond (leI 0 j8)
   (cond (leI 0 (wrapI IntKind.i64 (i7 + 1)) && ltI (wrapI IntKind.i64 (i7 + 1)) (↑(List.length h0) : Int))
    (cond (leI 0 j8 && ltI j8 (↑(List.length (List.getD h0 (Int.toNat (wrapI IntKind.i64 (i7 + 1))) [])) : Int))
     (cond (leI 0 i7 && ltI i7 (↑(List.length h0) : Int))
      (cond (leI 0 (wrapI IntKind.i64 (j8 + 1)) && ltI (wrapI IntKind.i64 (j8 + 1)) (↑(List.length (List.getD h0 (Int.toNat i7) [])) : Int))
       (cond (ltI (cI 0 (atL (List.getD h0 (Int.toNat (wrapI IntKind.i64 (i7 + 1))) []) j8)) (cI 0 (atL (List.getD h0 (Int.toNat i7) []) (wrapI IntKind.i64 (j8 + 1)))))
        (cond (leI 0 i7 && ltI i7 (↑(List.length h0) : Int))
         (cond (leI 0 (wrapI IntKind.i64 (j8 + 1)) && ltI (wrapI IntKind.i64 (j8 + 1)) (↑(List.length (List.getD h0 (Int.toNat i7) [])) : Int))
          (cond (leI 0 i7 && ltI i7 (↑(List.length a0) : Int))
           (cond (leI 0 j8 && ltI j8 (↑(List.length b1) : Int))
            (cond (bl (cT 0 (atL a0 i7)) == bl (cT 0 (atL b1 j8)))
             (cond (leI 0 (wrapI IntKind.i64 (i7 + 1)) && ltI (wrapI IntKind.i64 (i7 + 1)) (↑(List.length h0) : Int))
              (cond (leI 0 (wrapI IntKind.i64 (j8 + 1)) && ltI (wrapI IntKind.i64 (j8 + 1)) (↑(List.length (List.getD h0 (Int.toNat (wrapI IntKind.i64 (i7 + 1))) [])) : Int))
               (cond (ltI (cI 0 (atL (List.getD h0 (Int.toNat i7) []) (wrapI IntKind.i64 (j8 + 1)))) (wrapI IntKind.i64 (cI 0 (atL (List.getD h0 (Int.toNat (wrapI IntKind.i64 (i7 + 1))) []) (wrapI IntKind.i64 (j8 + 1))) + 1)))
                (cond (leI 0 (wrapI IntKind.i64 (i7 + 1)) && ltI (wrapI IntKind.i64 (i7 + 1)) (↑(List.length h0) : Int))
                 (cond (leI 0 (wrapI IntKind.i64 (j8 + 1)) && ltI (wrapI IntKind.i64 (j8 + 1)) (↑(List.length (List.getD h0 (Int.toNat (wrapI IntKind.i64 (i7 + 1))) [])) : Int))
                  (cond (leI 0 i7 && ltI i7 (↑(List.length h0) : Int))
                   (cond (leI 0 j8 && ltI j8 (↑(List.length (List.getD h0 (Int.toNat i7) [])) : Int))
                    (G (table_q10 a0 b1 i7 (wrapI IntKind.i64 (j8 - 1)) (List.set h0 (Int.toNat i7) (List.set (List.getD h0 (Int.toNat i7) []) (Int.toNat j8) (splice 0 [L.int IntKind.i64 (wrapI IntKind.i64 (cI 0 (atL (List.getD h0 (Int.toNat (wrapI IntKind.i64 (i7 + 1))) []) (wrapI IntKind.i64 (j8 + 1))) + 1))] (atL (List.getD h0 (Int.toNat i7) []) j8))))))
                    none)
                   none)
                  none)
                 none)
                (cond (leI 0 i7 && ltI i7 (↑(List.length h0) : Int))
                 (cond (leI 0 j8 && ltI j8 (↑(List.length (List.getD h0 (Int.toNat i7) [])) : Int))
                  (G (table_q10 a0 b1 i7 (wrapI IntKind.i64 (j8 - 1)) (List.set h0 (Int.toNat i7) (List.set (List.getD h0 (Int.toNat i7) []) (Int.toNat j8) (splice 0 [L.int IntKind.i64 (cI 0 (atL (List.getD h0 (Int.toNat i7) []) (wrapI IntKind.i64 (j8 + 1))))] (atL (List.getD h0 (Int.toNat i7) []) j8))))))
                  none)
                 none))
               none)
              none)
             (cond (leI 0 i7 && ltI i7 (↑(List.length h0) : Int))
              (cond (leI 0 j8 && ltI j8 (↑(List.length (List.getD h0 (Int.toNat i7) [])) : Int))
               (G (table_q10 a0 b1 i7 (wrapI IntKind.i64 (j8 - 1)) (List.set h0 (Int.toNat i7) (List.set (List.getD h0 (Int.toNat i7) []) (Int.toNat j8) (splice 0 [L.int IntKind.i64 (cI 0 (atL (List.getD h0 (Int.toNat i7) []) (wrapI IntKind.i64 (j8 + 1))))] (atL (List.getD h0 (Int.toNat i7) []) j8))))))
               none)
              none))
            none)
           none)
          none)
         none)
        (cond (leI 0 i7 && ltI i7 (↑(List.length a0) : Int))
         (cond (leI 0 j8 && ltI j8 (↑(List.length b1) : Int))
          (cond (bl (cT 0 (atL a0 i7)) == bl (cT 0 (atL b1 j8)))
           (cond (leI 0 (wrapI IntKind.i64 (i7 + 1)) && ltI (wrapI IntKind.i64 (i7 + 1)) (↑(List.length h0) : Int))
            (cond (leI 0 (wrapI IntKind.i64 (j8 + 1)) && ltI (wrapI IntKind.i64 (j8 + 1)) (↑(List.length (List.getD h0 (Int.toNat (wrapI IntKind.i64 (i7 + 1))) [])) : Int))
             (cond (ltI (cI 0 (atL (List.getD h0 (Int.toNat (wrapI IntKind.i64 (i7 + 1))) []) j8)) (wrapI IntKind.i64 (cI 0 (atL (List.getD h0 (Int.toNat (wrapI IntKind.i64 (i7 + 1))) []) (wrapI IntKind.i64 (j8 + 1))) + 1)))
              (cond (leI 0 (wrapI IntKind.i64 (i7 + 1)) && ltI (wrapI IntKind.i64 (i7 + 1)) (↑(List.length h0) : Int))
               (cond (leI 0 (wrapI IntKind.i64 (j8 + 1)) && ltI (wrapI IntKind.i64 (j8 + 1)) (↑(List.length (List.getD h0 (Int.toNat (wrapI IntKind.i64 (i7 + 1))) [])) : Int))
                (cond (leI 0 i7 && ltI i7 (↑(List.length h0) : Int))
                 (cond (leI 0 j8 && ltI j8 (↑(List.length (List.getD h0 (Int.toNat i7) [])) : Int))
                  (G (table_q10 a0 b1 i7 (wrapI IntKind.i64 (j8 - 1)) (List.set h0 (Int.toNat i7) (List.set (List.getD h0 (Int.toNat i7) []) (Int.toNat j8) (splice 0 [L.int IntKind.i64 (wrapI IntKind.i64 (cI 0 (atL (List.getD h0 (Int.toNat (wrapI IntKind.i64 (i7 + 1))) []) (wrapI IntKind.i64 (j8 + 1))) + 1))] (atL (List.getD h0 (Int.toNat i7) []) j8))))))
                  none)
                 none)
                none)
               none)
              (cond (leI 0 i7 && ltI i7 (↑(List.length h0) : Int))
               (cond (leI 0 j8 && ltI j8 (↑(List.length (List.getD h0 (Int.toNat i7) [])) : Int))
                (G (table_q10 a0 b1 i7 (wrapI IntKind.i64 (j8 - 1)) (List.set h0 (Int.toNat i7) (List.set (List.getD h0 (Int.toNat i7) []) (Int.toNat j8) (splice 0 [L.int IntKind.i64 (cI 0 (atL (List.getD h0 (Int.toNat (wrapI IntKind.i64 (i7 + 1))) []) j8))] (atL (List.getD h0 (Int.toNat i7) []) j8))))))
                none)
               none))
             none)
            none)
           (cond (leI 0 i7 && ltI i7 (↑(List.length h0) : Int))
            (cond (leI 0 j8 && ltI j8 (↑(List.length (List.getD h0 (Int.toNat i7) [])) : Int))
             (G (table_q10 a0 b1 i7 (wrapI IntKind.i64 (j8 - 1)) (List.set h0 (Int.toNat i7) (List.set (List.getD h0 (Int.toNat i7) []) (Int.toNat j8) (splice 0 [L.int IntKind.i64 (cI 0 (atL (List.getD h0 (Int.toNat (wrapI IntKind.i64 (i7 + 1))) []) j8))] (atL (List.getD h0 (Int.toNat i7) []) j8))))))
             none)
            none))
          none)
         none))
       none)
      none)
     none)
    none)
   (G (table_q7 a0 b1 (wrapI IntKind.i64 (i7 - 1)) h0))) := by kernel_rfl

/-! codesearch/diff.Distance -/
noncomputable def dist_q3 (n3 : Int) (x6 : List (List L)) (x7 : Int) (x8 : Int) : Req := .point 16 [] (todoAt Tryd.prog 16 3) ⟨[an, an, an, (.lf (.int IntKind.i64 n3)), an, an, (.lf (.lst 46 x6)), (.lf (.int IntKind.i64 x7)), (.lf (.int IntKind.i64 x8)), an, an, an, an, an, an, an, an, an, an, an, an, an, an, an, an], []⟩
theorem dist_e (G : Req → R) (l0 : List (List L)) : runB (cfg []) G (.enter 16 [(.lf (.lst 46 l0))] []) =
  (G (dist_q3 0 l0 ((↑(List.length l0) : Int)) 0)) := by kernel_rfl
theorem dist_p3 (G : Req → R) (n3 : Int) (x6 : List (List L)) (x7 : Int) (x8 : Int) : runB (cfg []) G (dist_q3 n3 x6 x7 x8) =
  (cond (ltI x8 x7)
   (cond (leI 0 x8 && ltI x8 (↑(List.length x6) : Int))
    (G (dist_q3 (wrapI IntKind.i64 (n3 + wrapI IntKind.i64 (wrapI IntKind.i64 (cI 1 (atL x6 x8) - cI 0 (atL x6 x8)) + (↑(List.length (cX 2 (atL x6 x8))) : Int)))) x6 x7 (wrapI IntKind.i64 (x8 + 1))))
    none)
   (some [(.int IntKind.i64 (n3))])) := by kernel_rfl

/-! codesearch/codesearchref23.Distance -/
noncomputable def rDist_q3 (l0 : List (List L)) (n3 : Int) (i4 : Int) : Req := .point 17 [] (todoAt Tryd.prog 17 3) ⟨[(.lf (.lst 46 l0)), an, an, (.lf (.int IntKind.i64 n3)), (.lf (.int IntKind.i64 i4)), an, an, an, an, an, an, an, an, an, an, an, an, an, an, an, an, an, an, an, an, an, an, an, an, an, an, an], []⟩
theorem rDist_e (G : Req → R) (l0 : List (List L)) : runB (cfg []) G (.enter 17 [(.lf (.lst 46 l0))] []) =
  (G (rDist_q3 l0 0 0)) := by kernel_rfl
theorem rDist_p3 (G : Req → R) (l0 : List (List L)) (n3 : Int) (i4 : Int) : runB (cfg []) G (rDist_q3 l0 n3 i4) =
  (cond (ltI i4 (↑(List.length l0) : Int))
   (cond (leI 0 i4 && ltI i4 (↑(List.length l0) : Int))
    (cond (leI 0 i4 && ltI i4 (↑(List.length l0) : Int))
     (cond (leI 0 i4 && ltI i4 (↑(List.length l0) : Int))
      (G (rDist_q3 l0 (wrapI IntKind.i64 (wrapI IntKind.i64 (wrapI IntKind.i64 (n3 + cI 1 (atL l0 i4)) - cI 0 (atL l0 i4)) + (↑(List.length (cX 2 (atL l0 i4))) : Int))) (wrapI IntKind.i64 (i4 + 1))))
      none)
     none)
    none)
   (some [(.int IntKind.i64 (n3))])) := by kernel_rfl

/-! codesearch/codesearchref23.SameText -/
noncomputable def stext_q4 (a0 : List (List L)) (b1 : List (List L)) (i5 : Int) : Req := .point 20 [] (todoAt Tryd.prog 20 4) ⟨[(.lf (.lst 9 a0)), (.lf (.lst 9 b1)), an, an, an, (.lf (.int IntKind.i64 i5)), an, an, an, an, an, an, an, an, an, an, an, an, an, an, an, an, an, an, an, an], []⟩
theorem stext_e (G : Req → R) (a0 : List (List L)) (b1 : List (List L)) : runB (cfg []) G (.enter 20 [(.lf (.lst 9 a0)), (.lf (.lst 9 b1))] []) =
  (cond ((↑(List.length a0) : Int) != (↑(List.length b1) : Int))
   (some [(.bool (false))])
   (G (stext_q4 a0 b1 0))) := by kernel_rfl
theorem stext_p4 (G : Req → R) (a0 : List (List L)) (b1 : List (List L)) (i5 : Int) : runB (cfg []) G (stext_q4 a0 b1 i5) =
  (cond (ltI i5 (↑(List.length a0) : Int))
   (cond (leI 0 i5 && ltI i5 (↑(List.length a0) : Int))
    (cond (leI 0 i5 && ltI i5 (↑(List.length b1) : Int))
     (cond (!bl (cT 0 (atL a0 i5)) == bl (cT 0 (atL b1 i5)))
      (some [(.bool (false))])
      (G (stext_q4 a0 b1 (wrapI IntKind.i64 (i5 + 1)))))
     none)
    none)
   (some [(.bool (true))])) := by kernel_rfl

/-! slices.Equal[[]string,string] -/
noncomputable def equal_q4 (s10 : List (List L)) (s21 : List (List L)) (x12 : Int) (x13 : Int) : Req := .point 55 [] (todoAt Tryd.prog 55 4) ⟨[(.lf (.lst 9 s10)), (.lf (.lst 9 s21)), an, an, an, an, an, an, an, an, an, an, (.lf (.int IntKind.i64 x12)), (.lf (.int IntKind.i64 x13)), an, an, an, an, an, an, an, an, an, an, an, an], []⟩
theorem equal_e (G : Req → R) (s10 : List (List L)) (s21 : List (List L)) : runB (cfg []) G (.enter 55 [(.lf (.lst 9 s10)), (.lf (.lst 9 s21))] []) =
  (cond ((↑(List.length s10) : Int) != (↑(List.length s21) : Int))
   (some [(.bool (false))])
   (G (equal_q4 s10 s21 ((↑(List.length s10) : Int)) 0))) := by kernel_rfl
theorem equal_p4 (G : Req → R) (s10 : List (List L)) (s21 : List (List L)) (x12 : Int) (x13 : Int) : runB (cfg []) G (equal_q4 s10 s21 x12 x13) =
  (cond (ltI x13 x12)
   (cond (leI 0 x13 && ltI x13 (↑(List.length s10) : Int))
    (cond (leI 0 x13 && ltI x13 (↑(List.length s21) : Int))
     (cond (!bl (cT 0 (atL s10 x13)) == bl (cT 0 (atL s21 x13)))
      (some [(.bool (false))])
      (G (equal_q4 s10 s21 x12 (wrapI IntKind.i64 (x13 + 1)))))
     none)
    none)
   (some [(.bool (true))])) := by kernel_rfl

/-! codesearch/codesearchlaw23.marked -/
noncomputable def marked_q2 (l0 : List (List L)) (i3 : Int) : Req := .point 29 [] (todoAt Tryd.prog 29 2) ⟨[(.lf (.lst 9 l0)), an, an, (.lf (.int IntKind.i64 i3)), an, an, an, an, an, an, an, an, an, an, an, an, an, an, an, an, an, an, an, an], []⟩
theorem marked_e (G : Req → R) (l0 : List (List L)) : runB (cfg []) G (.enter 29 [(.lf (.lst 9 l0))] []) =
  (G (marked_q2 l0 0)) := by kernel_rfl
theorem marked_p2 (G : Req → R) (l0 : List (List L)) (i3 : Int) : runB (cfg []) G (marked_q2 l0 i3) =
  (cond (ltI i3 (↑(List.length l0) : Int))
   (cond (leI 0 i3 && ltI i3 (↑(List.length l0) : Int))
    (cond (ltI 0 (↑(ByteArray.size (cT 0 (atL l0 i3))) : Int))
     (cond (leI 0 i3 && ltI i3 (↑(List.length l0) : Int))
      (cond (ltI 0 (↑(ByteArray.size (cT 0 (atL l0 i3))) : Int))
       (cond (byI (cT 0 (atL l0 i3)) 0 == 10)
        (some [(.bool (false))])
        (G (marked_q2 l0 (wrapI IntKind.i64 (i3 + 1)))))
       none)
      none)
     (G (marked_q2 l0 (wrapI IntKind.i64 (i3 + 1)))))
    none)
   (some [(.bool (true))])) := by kernel_rfl

/-! codesearch/codesearchlaw23.plain -/
noncomputable def plain_q2 (l0 : List (List L)) (i3 : Int) : Req := .point 23 [] (todoAt Tryd.prog 23 2) ⟨[(.lf (.lst 46 l0)), an, an, (.lf (.int IntKind.i64 i3)), an, an, an, an, an, an, an, an, an, an, an, an, an, an, an, an, an, an, an, an, an, an, an, an, an, an, an, an, an, an, an, an, an, an, an, an, an], []⟩
noncomputable def plain_q5 (l0 : List (List L)) (i3 : Int) (k4 : Int) : Req := .point 23 [] (todoAt Tryd.prog 23 5) ⟨[(.lf (.lst 46 l0)), an, an, (.lf (.int IntKind.i64 i3)), (.lf (.int IntKind.i64 k4)), an, an, an, an, an, an, an, an, an, an, an, an, an, an, an, an, an, an, an, an, an, an, an, an, an, an, an, an, an, an, an, an, an, an, an, an], []⟩
noncomputable def plain_q9 (l0 : List (List L)) (i3 : Int) (k4 : Int) (s5 : ByteArray) (j6 : Int) : Req := .point 23 [] (todoAt Tryd.prog 23 9) ⟨[(.lf (.lst 46 l0)), an, an, (.lf (.int IntKind.i64 i3)), (.lf (.int IntKind.i64 k4)), (.lf (.str s5)), (.lf (.int IntKind.i64 j6)), an, an, an, an, an, an, an, an, an, an, an, an, an, an, an, an, an, an, an, an, an, an, an, an, an, an, an, an, an, an, an, an, an, an], []⟩
theorem plain_e (G : Req → R) (l0 : List (List L)) : runB (cfg []) G (.enter 23 [(.lf (.lst 46 l0))] []) =
  (G (plain_q2 l0 0)) := by kernel_rfl
theorem plain_p2 (G : Req → R) (l0 : List (List L)) (i3 : Int) : runB (cfg []) G (plain_q2 l0 i3) =
  (cond (ltI i3 (↑(List.length l0) : Int))
   (G (plain_q5 l0 i3 0))
   (some [(.bool (true))])) := by kernel_rfl
theorem plain_p5 (G : Req → R) (l0 : List (List L)) (i3 : Int) (k4 : Int) : runB (cfg []) G (plain_q5 l0 i3 k4) =
  (cond (leI 0 i3 && ltI i3 (↑(List.length l0) : Int))
   (cond (ltI k4 (↑(List.length (cX 2 (atL l0 i3))) : Int))
    (cond (leI 0 i3 && ltI i3 (↑(List.length l0) : Int))
     (cond (leI 0 k4 && ltI k4 (↑(List.length (cX 2 (atL l0 i3))) : Int))
      (G (plain_q9 l0 i3 k4 (cT 0 (atL (cX 2 (atL l0 i3)) k4)) 0))
      none)
     none)
    (G (plain_q2 l0 (wrapI IntKind.i64 (i3 + 1)))))
   none) := by kernel_rfl
theorem plain_p9 (G : Req → R) (l0 : List (List L)) (i3 : Int) (k4 : Int) (s5 : ByteArray) (j6 : Int) : runB (cfg []) G (plain_q9 l0 i3 k4 s5 j6) =
  (cond (ltI j6 (↑(ByteArray.size s5) : Int))
   (cond (leI 0 j6 && ltI j6 (↑(ByteArray.size s5) : Int))
    (cond (byI s5 j6 == 10)
     (some [(.bool (false))])
     (G (plain_q9 l0 i3 k4 s5 (wrapI IntKind.i64 (j6 + 1)))))
    none)
   (G (plain_q5 l0 i3 (wrapI IntKind.i64 (k4 + 1))))) := by kernel_rfl

/-! slices.Clone[[]string,string] -/
theorem clS_e (G : Req → R) (s0 : List (List L)) : runB (cfg []) G (.enter 36 [(.lf (.lst 9 s0))] []) =
  (cond (Nat.beq (List.length s0) 0)
   (both
    (some [(.lst 9 [])])
    (cond (roomN (0 + List.length s0) 16)
     (some [(.lst 9 ([] ++ s0))])
     none))
   (cond (roomN (0 + List.length s0) 16)
    (some [(.lst 9 ([] ++ s0))])
    none)) := by kernel_rfl

/-! slices.Clone[[]codesearch/api.Hunk,codesearch/api.Hunk] -/
theorem clH_e (G : Req → R) (s0 : List (List L)) : runB (cfg []) G (.enter 42 [(.lf (.lst 46 s0))] []) =
  (cond (Nat.beq (List.length s0) 0)
   (both
    (some [(.lst 46 [])])
    (cond (roomN (0 + List.length s0) 40)
     (some [(.lst 46 ([] ++ s0))])
     none))
   (cond (roomN (0 + List.length s0) 40)
    (some [(.lst 46 ([] ++ s0))])
    none)) := by kernel_rfl

/-! codesearch/codesearchref23.Right -/
noncomputable def rright_q2 (l0 : List (List L)) (n1 : Int) (i5 : Int) : Req := .point 22 [] (todoAt Tryd.prog 22 2) ⟨[(.lf (.lst 46 l0)), (.lf (.int IntKind.i64 n1)), an, an, an, (.lf (.int IntKind.i64 i5)), an, an, an, an, an, an, an, an, an, an, an, an, an, an, an, an, an, an, an, an, an, an, an, an, an, an, an, an, an, an, an, an, an, an, an, an, an, an, an, an, an, an, an, an, an, an, an, an, an, an, an, an, an, an, an, an, an, an, an, an, an, an, an, an, an, an, an, an, an, an], []⟩
theorem rright_e (G : Req → R) (l0 : List (List L)) (n1 : Int) : runB (cfg []) G (.enter 22 [(.lf (.lst 46 l0)), (.lf (.int IntKind.i64 (n1)))] []) =
  (G (rright_q2 l0 n1 0)) := by kernel_rfl
theorem rright_p2 (G : Req → R) (l0 : List (List L)) (n1 : Int) (i5 : Int) : runB (cfg []) G (rright_q2 l0 n1 i5) =
  (cond (ltI i5 (↑(List.length l0) : Int))
   (cond (leI 0 i5 && ltI i5 (↑(List.length l0) : Int))
    (cond (ltI (cI 0 (atL l0 i5)) 0)
     (some [(.int IntKind.i64 (2))])
     (cond (leI 0 i5 && ltI i5 (↑(List.length l0) : Int))
      (cond (leI 0 i5 && ltI i5 (↑(List.length l0) : Int))
       (cond (ltI (cI 1 (atL l0 i5)) (cI 0 (atL l0 i5)))
        (some [(.int IntKind.i64 (2))])
        (cond (leI 0 i5 && ltI i5 (↑(List.length l0) : Int))
         (cond (ltI n1 (cI 1 (atL l0 i5)))
          (some [(.int IntKind.i64 (2))])
          (cond (ltI 0 i5)
           (cond (leI 0 i5 && ltI i5 (↑(List.length l0) : Int))
            (cond (leI 0 (wrapI IntKind.i64 (i5 - 1)) && ltI (wrapI IntKind.i64 (i5 - 1)) (↑(List.length l0) : Int))
             (cond (leI (cI 0 (atL l0 i5)) (cI 1 (atL l0 (wrapI IntKind.i64 (i5 - 1)))))
              (some [(.int IntKind.i64 (14))])
              (cond (leI 0 i5 && ltI i5 (↑(List.length l0) : Int))
               (cond (leI 0 i5 && ltI i5 (↑(List.length l0) : Int))
                (cond (cI 0 (atL l0 i5) == cI 1 (atL l0 i5))
                 (cond (leI 0 i5 && ltI i5 (↑(List.length l0) : Int))
                  (cond ((↑(List.length (cX 2 (atL l0 i5))) : Int) == 0)
                   (some [(.int IntKind.i64 (1))])
                   (G (rright_q2 l0 n1 (wrapI IntKind.i64 (i5 + 1)))))
                  none)
                 (G (rright_q2 l0 n1 (wrapI IntKind.i64 (i5 + 1)))))
                none)
               none))
             none)
            none)
           (cond (leI 0 i5 && ltI i5 (↑(List.length l0) : Int))
            (cond (leI 0 i5 && ltI i5 (↑(List.length l0) : Int))
             (cond (cI 0 (atL l0 i5) == cI 1 (atL l0 i5))
              (cond (leI 0 i5 && ltI i5 (↑(List.length l0) : Int))
               (cond ((↑(List.length (cX 2 (atL l0 i5))) : Int) == 0)
                (some [(.int IntKind.i64 (1))])
                (G (rright_q2 l0 n1 (wrapI IntKind.i64 (i5 + 1)))))
               none)
              (G (rright_q2 l0 n1 (wrapI IntKind.i64 (i5 + 1)))))
             none)
            none)))
         none))
       none)
      none))
    none)
   (some [(.int IntKind.i64 (0))])) := by kernel_rfl

/-! codesearch/diff.Right -/
noncomputable def right_q2 (l0 : List (List L)) (n1 : Int) (x7 : List (List L)) (x8 : Int) (x9 : Int) : Req := .point 30 [] (todoAt Tryd.prog 30 2) ⟨[(.lf (.lst 46 l0)), (.lf (.int IntKind.i64 n1)), an, an, an, an, an, (.lf (.lst 46 x7)), (.lf (.int IntKind.i64 x8)), (.lf (.int IntKind.i64 x9)), an, an, an, an, an, an, an, an, an, an, an, an, an, an, an, an, an, an, an, an, an, an, an, an, an, an, an, an, an, an, an, an, an, an, an, an, an, an, an, an, an, an, an, an, an], []⟩
theorem right_e (G : Req → R) (l0 : List (List L)) (n1 : Int) : runB (cfg []) G (.enter 30 [(.lf (.lst 46 l0)), (.lf (.int IntKind.i64 (n1)))] []) =
  (G (right_q2 l0 n1 l0 ((↑(List.length l0) : Int)) 0)) := by kernel_rfl
theorem right_p2 (G : Req → R) (l0 : List (List L)) (n1 : Int) (x7 : List (List L)) (x8 : Int) (x9 : Int) : runB (cfg []) G (right_q2 l0 n1 x7 x8 x9) =
  (cond (ltI x9 x8)
   (cond (leI 0 x9 && ltI x9 (↑(List.length x7) : Int))
    (cond (ltI (cI 0 (atL x7 x9)) 0)
     (some [(.int IntKind.i64 (2))])
     (cond (ltI (cI 1 (atL x7 x9)) (cI 0 (atL x7 x9)))
      (some [(.int IntKind.i64 (2))])
      (cond (ltI n1 (cI 1 (atL x7 x9)))
       (some [(.int IntKind.i64 (2))])
       (cond (ltI 0 x9)
        (cond (leI 0 (wrapI IntKind.i64 (x9 - 1)) && ltI (wrapI IntKind.i64 (x9 - 1)) (↑(List.length l0) : Int))
         (cond (leI (cI 0 (atL x7 x9)) (cI 1 (atL l0 (wrapI IntKind.i64 (x9 - 1)))))
          (some [(.int IntKind.i64 (14))])
          (cond (cI 0 (atL x7 x9) == cI 1 (atL x7 x9))
           (cond ((↑(List.length (cX 2 (atL x7 x9))) : Int) == 0)
            (some [(.int IntKind.i64 (1))])
            (G (right_q2 l0 n1 x7 x8 (wrapI IntKind.i64 (x9 + 1)))))
           (G (right_q2 l0 n1 x7 x8 (wrapI IntKind.i64 (x9 + 1))))))
         none)
        (cond (cI 0 (atL x7 x9) == cI 1 (atL x7 x9))
         (cond ((↑(List.length (cX 2 (atL x7 x9))) : Int) == 0)
          (some [(.int IntKind.i64 (1))])
          (G (right_q2 l0 n1 x7 x8 (wrapI IntKind.i64 (x9 + 1)))))
         (G (right_q2 l0 n1 x7 x8 (wrapI IntKind.i64 (x9 + 1)))))))))
    none)
   (some [(.int IntKind.i64 (0))])) := by kernel_rfl

/-! codesearch/codesearchref23.gap -/
theorem gap_e (G : Req → R) (xs : List (List L)) (at1 : Int) (end2 : Int) (ls : List (List L)) : runB (cfg []) G (.enter 40 [(.lf (.row (0))), (.lf (.int IntKind.i64 (at1))), (.lf (.int IntKind.i64 (end2))), (.lf (.lst 9 ls))] [(.row 46 xs true)]) =
  (cond (at1 == end2)
   (cond ((↑(List.length ls) : Int) == 0)
    (some [(.lst 46 xs)])
    (cond (roomN (0 + List.length ls) 16)
     (cond (roomN (List.length xs + 1) 40)
      (some [(.lst 46 (xs ++ [[L.int IntKind.i64 at1, L.int IntKind.i64 end2, L.lst 9 ([] ++ ls)]]))])
      none)
     none))
   (cond (roomN (0 + List.length ls) 16)
    (cond (roomN (List.length xs + 1) 40)
     (some [(.lst 46 (xs ++ [[L.int IntKind.i64 at1, L.int IntKind.i64 end2, L.lst 9 ([] ++ ls)]]))])
     none)
    none)) := by kernel_rfl

end Go.Ab
namespace Go.Ab
open Go.Proofs

theorem tn1 (i : Nat) : Int.toNat ((i : Int) + 1) = i + 1 := by omega
section
variable {a b : List W} {i j : Nat}
theorem rd11 (hi : i < a.length) (hj : j < b.length) : cI 0 (atL (List.getD (mz a b i j) (i + 1) []) ((j : Int) + 1)) = lv a b (i + 1) (j + 1) := by
  rw [mz_row (by omega)]
  have e : ((j : Int) + 1) = ((j + 1 : Nat) : Int) := rfl
  rw [e, cellsF_at (by omega), cI_one, if_pos (by omega)]
theorem rd10 (hi : i < a.length) (hj : j < b.length) : cI 0 (atL (List.getD (mz a b i j) (i + 1) []) (j : Int)) = lv a b (i + 1) j := by
  rw [mz_row (by omega), cellsF_at (by omega), cI_one, if_pos (by omega)]
theorem rd01 (hi : i < a.length) (hj : j < b.length) : cI 0 (atL (List.getD (mz a b i j) i []) ((j : Int) + 1)) = lv a b i (j + 1) := by
  rw [mz_row (by omega)]
  have e : ((j : Int) + 1) = ((j + 1 : Nat) : Int) := rfl
  rw [e, cellsF_at (by omega), cI_one, if_pos (by omega)]
theorem rdl (hi : i < a.length + 1) : (List.getD (mz a b i j) i []).length = b.length + 1 := by rw [mz_row hi, cellsF_len]
theorem rdl1 (hi : i < a.length) : (List.getD (mz a b i j) (i + 1) []).length = b.length + 1 := by rw [mz_row (by omega), cellsF_len]
theorem wr (v : Int) (hi : i < a.length) (hj : j < b.length) (hv : v = lv a b i j) :
    List.set (mz a b i j) i (List.set (List.getD (mz a b i j) i []) j (splice 0 [L.int .i64 v] (atL (List.getD (mz a b i j) i []) (j : Int)))) = mz a b i ((j : Int) - 1) := by
  subst hv
  rw [mz_row (by omega), cellsF_at (by omega), splice_one]
  exact mz_set hi hj
theorem rowZ (m : Nat) : List.replicate m [L.int .i64 0] = cellsF m fun _ => 0 := rep_range m _
/-- The rows so far. -/
def rowsZ (n m k : Nat) : List (List (List L)) := (List.range n).map fun p => if p < k then cellsF m (fun _ => 0) else []
theorem rowsZ_len (n m k) : (rowsZ n m k).length = n := by simp [rowsZ]
theorem rowsZ_0 (n m : Nat) : matZ n = rowsZ n m 0 := by
  unfold matZ rowsZ
  rw [rep_range]
  exact List.map_congr_left fun p _ => by simp
theorem rowsZ_set (n m k : Nat) (_ : k < n) : (rowsZ n m k).set k (cellsF m fun _ => 0) = rowsZ n m (k + 1) := by
  unfold rowsZ
  rw [set_range]
  refine List.map_congr_left fun p _ => ?_
  by_cases h : p = k
  · rw [if_pos h, if_pos (by omega)]
  · rw [if_neg h]
    by_cases h2 : p < k
    · rw [if_pos h2, if_pos (by omega)]
    · rw [if_neg h2, if_neg (by omega)]
theorem rowsZ_all (n m : Nat) : rowsZ n m n = matF n m fun _ _ => 0 := by
  unfold rowsZ matF
  exact List.map_congr_left fun p hp => by rw [if_pos (by simpa using hp)]
end
theorem beq_bl {x y : W} : (bl (mk x) == bl (mk y)) = decide (x = y) := by
  show (x == y) = _
  rw [Bool.eq_iff_iff]
  simp

section
variable {a b : List W} (ha : a.length ≤ 1000000) (hb : b.length ≤ 1000000)
include ha hb
theorem lens_in {r : List L} {i : Nat} (hi : i < a.length) (hn : Runs (cfg []) (lens_q8 (eSs a) (eSs b) ((i : Int) - 1) (mz a b ((i : Int) - 1) ((b.length : Int) - 1))) r) :
    ∀ k, k ≤ b.length → Runs (cfg []) (lens_q11 (eSs a) (eSs b) i ((k : Int) - 1) (mz a b i ((k : Int) - 1))) r
  | 0, _ => by
    refine Runs.by (lens_p11 · _ _ _ _ _) ?_
    simp (disch := omega) only [ev_le_f, cond_false, w64]
    have e : ((0 : Nat) : Int) - 1 = -1 := rfl
    rw [e, mz_next]
    exact .go hn
  | j + 1, h => by
    have ih := lens_in hi hn j (by omega)
    refine Runs.by (lens_p11 · _ _ _ _ _) ?_
    have e : ((j + 1 : Nat) : Int) - 1 = (j : Int) := by omega
    have hj : j < b.length := by omega
    have l11 := lv_lo a b (i + 1) (j + 1)
    have h11 := lv_hi a b (i + 1) (j + 1)
    have hst := lv_step hi hj
    rw [e]
    simp (disch := omega) only [ev_le_t, ev_lt_t, eSs_len, mz_len, Bool.and_self, cond_true, eSs_at, cT_e, beq_bl, w64, tn1, Int.toNat_natCast, rdl, rdl1, rd11, rd10, rd01]
    by_cases hxy : a.getD i [] = b.getD j []
    · rw [if_pos hxy] at hst
      simp only [decide_eq_true hxy, cond_true]
      rw [wr _ hi hj hst.symm]
      exact .go ih
    · rw [if_neg hxy] at hst
      simp only [decide_eq_false hxy, cond_false, gt_iff_lt]
      rw [wr _ hi hj (by rw [hst]; split <;> omega)]
      exact .go ih
theorem lens_out : ∀ k, k ≤ a.length → Runs (cfg []) (lens_q8 (eSs a) (eSs b) ((k : Int) - 1) (mz a b ((k : Int) - 1) ((b.length : Int) - 1))) [.lst 54 (tabL a b)]
  | 0, _ => by
    refine Runs.by (lens_p8 · _ _ _ _) ?_
    simp (disch := omega) only [ev_le_f, cond_false]
    exact .ret
  | i + 1, h => by
    have ih := lens_out i (by omega)
    refine Runs.by (lens_p8 · _ _ _ _) ?_
    have e : ((i + 1 : Nat) : Int) - 1 = (i : Int) := by omega
    rw [e]
    simp (disch := omega) only [ev_le_t, eSs_len, cond_true, w64]
    exact .go (lens_in ha hb (by omega) ih b.length (Nat.le_refl _))
theorem lens_rows : ∀ d k, k + d = a.length + 1 → Runs (cfg []) (lens_q3 (eSs a) (eSs b) ((a.length + 1 : Nat) : Int) (k : Int) (rowsZ (a.length + 1) (b.length + 1) k)) [.lst 54 (tabL a b)]
  | 0, k, h => by
    refine Runs.by (lens_p3 · _ _ _ _ _) ?_
    simp (disch := omega) only [ev_lt_f, cond_false, eSs_len, w64]
    obtain rfl : k = a.length + 1 := by omega
    rw [rowsZ_all, mz_start]
    exact .go (lens_out ha hb a.length (Nat.le_refl _))
  | d + 1, k, h => by
    have ih := lens_rows d (k + 1) (by omega)
    refine Runs.by (lens_p3 · _ _ _ _ _) ?_
    simp (disch := omega) only [ev_lt_t, ev_le_t, cond_true, eSs_len, w64, rowsZ_len, Bool.and_self, tn1, Int.toNat_natCast, rowZ, cellsF_len]
    rw [rowsZ_set _ _ _ (by omega)]
    exact .go ih
theorem table_in {r : List L} {i : Nat} (hi : i < a.length) (hn : Runs (cfg []) (table_q7 (eSs a) (eSs b) ((i : Int) - 1) (mz a b ((i : Int) - 1) ((b.length : Int) - 1))) r) :
    ∀ k, k ≤ b.length → Runs (cfg []) (table_q10 (eSs a) (eSs b) i ((k : Int) - 1) (mz a b i ((k : Int) - 1))) r
  | 0, _ => by
    refine Runs.by (table_p10 · _ _ _ _ _) ?_
    simp (disch := omega) only [ev_le_f, cond_false, w64]
    have e : ((0 : Nat) : Int) - 1 = -1 := rfl
    rw [e, mz_next]
    exact .go hn
  | j + 1, h => by
    have ih := table_in hi hn j (by omega)
    refine Runs.by (table_p10 · _ _ _ _ _) ?_
    have e : ((j + 1 : Nat) : Int) - 1 = (j : Int) := by omega
    have hj : j < b.length := by omega
    have l11 := lv_lo a b (i + 1) (j + 1)
    have h11 := lv_hi a b (i + 1) (j + 1)
    have hst := lv_step hi hj
    have hs1 : a.getD i [] = b.getD j [] → lv a b (i + 1) j ≤ lv a b (i + 1) (j + 1) + 1 ∧ lv a b i (j + 1) ≤ lv a b (i + 1) (j + 1) + 1 := by
      intro _
      unfold lv
      have eb : b.drop j = b.getD j [] :: b.drop (j + 1) := by rw [List.drop_eq_getElem_cons hj]; simp [List.getD, hj]
      have ea : a.drop i = a.getD i [] :: a.drop (i + 1) := by rw [List.drop_eq_getElem_cons hi]; simp [List.getD, hi]
      rw [ea, eb]
      have := lcs_s1 (a.getD i []) (a.drop (i + 1)) (b.drop (j + 1))
      have := lcs_s2 (b.getD j []) (a.drop (i + 1)) (b.drop (j + 1))
      omega
    rw [e]
    simp (disch := omega) only [ev_le_t, ev_lt_t, eSs_len, mz_len, Bool.and_self, cond_true, eSs_at, cT_e, beq_bl, w64, tn1, Int.toNat_natCast, rdl, rdl1, rd11, rd10, rd01]
    by_cases hxy : a.getD i [] = b.getD j []
    · have hs := hs1 hxy
      rw [if_pos hxy] at hst
      rw [decide_eq_true hxy]
      simp only [cond_true]
      refine RunsF.cond (fun h1 => ?_) (fun h1 => ?_)
      · refine RunsF.cond (fun h2 => ?_) (fun h2 => ?_)
        · rw [wr _ hi hj (by omega)]
          exact .go ih
        · rw [wr _ hi hj (by simp at h2; omega)]
          exact .go ih
      · refine RunsF.cond (fun h2 => ?_) (fun h2 => ?_)
        · rw [wr _ hi hj (by omega)]
          exact .go ih
        · rw [wr _ hi hj (by simp at h1 h2; omega)]
          exact .go ih
    · rw [if_neg hxy] at hst
      rw [decide_eq_false hxy]
      simp only [cond_false]
      refine RunsF.cond (fun h1 => ?_) (fun h1 => ?_)
      · rw [wr _ hi hj (by simp at h1; omega)]
        exact .go ih
      · rw [wr _ hi hj (by simp at h1; omega)]
        exact .go ih
theorem table_out : ∀ k, k ≤ a.length → Runs (cfg []) (table_q7 (eSs a) (eSs b) ((k : Int) - 1) (mz a b ((k : Int) - 1) ((b.length : Int) - 1))) [.lst 54 (tabL a b)]
  | 0, _ => by
    refine Runs.by (table_p7 · _ _ _ _) ?_
    simp (disch := omega) only [ev_le_f, cond_false]
    exact .ret
  | i + 1, h => by
    have ih := table_out i (by omega)
    refine Runs.by (table_p7 · _ _ _ _) ?_
    have e : ((i + 1 : Nat) : Int) - 1 = (i : Int) := by omega
    rw [e]
    simp (disch := omega) only [ev_le_t, eSs_len, cond_true, w64]
    exact .go (table_in ha hb (by omega) ih b.length (Nat.le_refl _))
theorem table_rows : ∀ d k, k + d = a.length + 1 → Runs (cfg []) (table_q3 (eSs a) (eSs b) (k : Int) (rowsZ (a.length + 1) (b.length + 1) k)) [.lst 54 (tabL a b)]
  | 0, k, h => by
    refine Runs.by (table_p3 · _ _ _ _) ?_
    simp (disch := omega) only [ev_le_f, cond_false, eSs_len, w64]
    obtain rfl : k = a.length + 1 := by omega
    rw [rowsZ_all, mz_start]
    exact .go (table_out ha hb a.length (Nat.le_refl _))
  | d + 1, k, h => by
    have ih := table_rows d (k + 1) (by omega)
    refine Runs.by (table_p3 · _ _ _ _) ?_
    simp (disch := omega) only [ev_lt_t, ev_le_t, cond_true, eSs_len, w64, rowsZ_len, Bool.and_self, tn1, Int.toNat_natCast, rowZ, cellsF_len]
    rw [rowsZ_set _ _ _ (by omega)]
    exact .go ih
end
def sm (n : Nat) : Bool := Nat.ble n 1000000
theorem sm_of {n : Nat} (h : sm n = true) : n ≤ 1000000 := Nat.le_of_ble_eq_true h
theorem sm_t {n : Nat} (h : n ≤ 1000000) : sm n = true := Nat.ble_eq_true_of_le h
def gLL (a b : List W) : Bool := sm a.length && sm b.length
noncomputable def k_lens : Nat × Con := (n_diff_lengths, conSS gLL fun a b => [.lst 54 (tabL a b)])
theorem lens_holds : Holds k_lens := conSS_of (ks := []) hold0 fun a b g => by
  unfold gLL at g
  rw [Bool.and_eq_true] at g
  have ha := sm_of g.1
  have hb := sm_of g.2
  refine Runs.by (lens_e · _ _) ?_
  simp (disch := omega) only [eSs_len, w64, ev_le_t, Bool.and_self, cond_true, tn1]
  rw [rowsZ_0 (a.length + 1) (b.length + 1), rowsZ_len]
  exact .go (lens_rows ha hb (a.length + 1) 0 (by omega))
noncomputable def k_table : Nat × Con := (n_codesearchref23_table, conSS gLL fun a b => [.lst 54 (tabL a b)])
theorem table_holds : Holds k_table := conSS_of (ks := []) hold0 fun a b g => by
  unfold gLL at g
  rw [Bool.and_eq_true] at g
  have ha := sm_of g.1
  have hb := sm_of g.2
  refine Runs.by (table_e · _ _) ?_
  simp (disch := omega) only [eSs_len, w64, ev_le_t, Bool.and_self, cond_true, tn1]
  rw [rowsZ_0 (a.length + 1) (b.length + 1)]
  exact .go (table_rows ha hb (a.length + 1) 0 (by omega))
end Go.Ab
namespace Go.Ab
open Go.Proofs

/-! ### the common lines, the hunks -/
def idx (x : W) : List W → Nat
  | [] => 0
  | y :: b => if y = x then 0 else idx x b + 1
def comF : List W → Nat → Nat → List W → List (Nat × Nat)
  | [], _, _, _ => []
  | x :: a, i, j, b => if lcs (x :: a) b = 0 then [] else
      if idx x b < b.length ∧ lcs a (b.drop (idx x b + 1)) + 1 = lcs (x :: a) b then (i, j + idx x b) :: comF a (i + 1) (j + idx x b + 1) (b.drop (idx x b + 1))
      else comF a (i + 1) j b
def eP (p : Nat × Nat) : List L := [.int .i64 p.1, .int .i64 p.2]
def ePs (l : List (Nat × Nat)) : List (List L) := l.map eP
noncomputable def k_common : Nat × Con := (n_diff_common, conSS gLL fun a b => [.lst 51 (ePs (comF a 0 0 b))])
/-- A gap's hunk, if there is one. -/
def gap1 (b : List W) (x y p q : Nat) : List Hk := if x < p ∨ y < q then [⟨x, p, (b.take q).drop y⟩] else []
def gapsF (b : List W) (n m : Nat) : Nat → Nat → List (Nat × Nat) → List Hk
  | x, y, [] => gap1 b x y n m
  | x, y, p :: ps => gap1 b x y p.1 p.2 ++ gapsF b n m (p.1 + 1) (p.2 + 1) ps
def lnF (a b : List W) : List Hk := gapsF b a.length b.length 0 0 (comF a 0 0 b)
def gL5 (a b : List W) : Bool := Nat.ble a.length 900000 && Nat.ble b.length 900000
noncomputable def k_Lines : Nat × Con := (n_diff_Lines, conSS gL5 fun a b => [.lst 46 (eHs (lnF a b))])
noncomputable def k_rLines : Nat × Con := (n_codesearchref23_Lines, conSS gL5 fun a b => [.lst 46 (eHs (lnF a b))])
noncomputable def k_clS : Nat × Con := (n_slices_Clone, conS (fun a => sm a.length) fun a => [.lst 9 (eSs a)])
noncomputable def k_clH : Nat × Con := (n_slices_Clone_42, conH (fun a => sm a.length) fun a => [.lst 46 (eHs a)])
noncomputable def k_next : Nat × Con := (n_codesearchref23_next, fun
  | [.lf (.lst 9 bs), .lf (.int .i64 j), .lf (.str x)], [] => some (isSs bs && (leI 0 j && leI j (bs.length : Nat) && sm bs.length), [.int .i64 (j + (idx (bl x) ((dSs bs).drop j.toNat) : Nat))])
  | _, _ => none)
noncomputable def k_gap : Nat × Con := (n_codesearchref23_gap, fun
  | [.lf (.row 0), .lf (.int .i64 x), .lf (.int .i64 p), .lf (.lst 9 ls)], [.row 46 hs true] => some (isHs hs && (isSs ls && (sm hs.length && sm ls.length)),
      [.lst 46 (hs ++ cond (x == p && Nat.beq ls.length 0) [] [[.int .i64 x, .int .i64 p, .lst 9 ls]])])
  | _, _ => none)
/-- The closure that makes a hunk of a gap. -/
noncomputable def k_dgap : Nat × Con := (n_diff_Lines_1, fun
  | [.lf (.int .i64 p), .lf (.int .i64 q), .lf (.ptr 0 0), .lf (.ptr 1 0), .lf (.ptr 2 0), .lf (.ptr 3 0)], [.box [.int .i64] [.int .i64 x], .box [.int .i64] [.int .i64 y], .box [.sl 46] [.row 4], .box [.sl 9] [.lst 9 bs], .row 46 hs true] =>
    some (isHs hs && (isSs bs && (sm hs.length && (sm bs.length && (leI 0 x && leI x p && (leI 0 y && leI y q && (leI q (bs.length : Nat) && leI p 1000000)))))),
      [.int .i64 (p + 1), .int .i64 (q + 1), .lst 46 (hs ++ cond (ltI x p || ltI y q) [[.int .i64 x, .int .i64 p, .lst 9 ((bs.take q.toNat).drop y.toNat)]] []), .lst 9 bs])
  | _, _ => none)
end Go.Ab
namespace Go.Ab
open Go.Proofs

def fewF (a : List W) : Bool := Nat.ble a.length 40 && a.all fun s => Nat.ble s.length 200
def hunksF (l : List Hk) : Bool := Nat.ble l.length 40 && l.all fun h => fewF h.ls
def markedF (a : List W) : Bool := a.all fun s => !(Nat.ble 1 s.length && ((s.getD 0 0).toNat == 10))
def plainF (l : List Hk) : Bool := l.all fun h => h.ls.all fun s => s.all fun c => !(c.toNat == 10)
def distF : List Hk → Int
  | [] => 0
  | h :: l => (h.to - h.fr + (h.ls.length : Nat)) + distF l
def near (n : Int) : Bool := leI (-1000000000) n && leI n 1000000000
def gDi (l : List Hk) : Bool := sm l.length && l.all fun h => near h.fr && near h.to && sm h.ls.length
def prevLe (x : Int) : Option Int → Bool
  | some e => leI x e
  | none => false
def rightG (n : Int) : Option Int → List Hk → Int
  | _, [] => 0
  | p, h :: l => cond (ltI h.fr 0 || (ltI h.to h.fr || ltI n h.to)) 2
      (cond (prevLe h.fr p) 14 (cond (h.fr == h.to && Nat.beq h.ls.length 0) 1 (rightG n (some h.to) l)))
theorem rightG_cons (n : Int) (p : Option Int) (h : Hk) (l : List Hk) : rightG n p (h :: l) = cond (ltI h.fr 0 || (ltI h.to h.fr || ltI n h.to)) 2
      (cond (prevLe h.fr p) 14 (cond (h.fr == h.to && Nat.beq h.ls.length 0) 1 (rightG n (some h.to) l))) := rfl
def rightF (l : List Hk) (n : Int) : Int := rightG n none l
noncomputable def k_few : Nat × Con := (n_codesearchlaw23_few, conS (fun a => sm a.length) fun a => [.bool (fewF a)])
noncomputable def k_hunks : Nat × Con := (n_codesearchlaw23_hunks, conH (fun a => sm a.length && a.all fun h => sm h.ls.length) fun a => [.bool (hunksF a)])
noncomputable def k_marked : Nat × Con := (n_codesearchlaw23_marked, conS (fun a => sm a.length) fun a => [.bool (markedF a)])
noncomputable def k_plain : Nat × Con := (n_codesearchlaw23_plain, conH (fun l => sm l.length && l.all fun h => sm h.ls.length && h.ls.all fun s => sm s.length) fun l => [.bool (plainF l)])
noncomputable def k_dist : Nat × Con := (n_diff_Distance, conH gDi fun l => [.int .i64 (distF l)])
noncomputable def k_rDist : Nat × Con := (n_codesearchref23_Distance, conH gDi fun l => [.int .i64 (distF l)])
noncomputable def k_stext : Nat × Con := (n_codesearchref23_SameText, conSS gLL fun a b => [.bool (decide (a = b))])
noncomputable def k_equal : Nat × Con := (n_slices_Equal, conSS gLL fun a b => [.bool (decide (a = b))])
noncomputable def k_right : Nat × Con := (n_diff_Right, conHI (fun l _ => sm l.length) fun l n => [.int .i64 (rightF l n)])
noncomputable def k_rright : Nat × Con := (n_codesearchref23_Right, conHI (fun l _ => sm l.length) fun l n => [.int .i64 (rightF l n)])
end Go.Ab
namespace Go.Ab
open Go.Proofs

noncomputable def k_same : Nat × Con := (n_diff_same, fun
  | [.agg [.int .i64 a, .int .i64 b, .lst 9 xs, .int .i64 c, .int .i64 d, .lst 9 ys]], [] => some (isSs xs && (isSs ys && gLL (dSs xs) (dSs ys)), [.bool (a == c && (b == d && decide (dSs xs = dSs ys)))])
  | _, _ => none)
noncomputable def k_shunk : Nat × Con := (n_codesearchref23_sameHunk, fun
  | [.agg [.int .i64 a, .int .i64 b, .lst 9 xs], .agg [.int .i64 c, .int .i64 d, .lst 9 ys]], [] => some (isSs xs && (isSs ys && gLL (dSs xs) (dSs ys)), [.bool (a == c && (b == d && decide (dSs xs = dSs ys)))])
  | _, _ => none)
def gHk (l : List Hk) : Bool := sm l.length && l.all fun h => sm h.ls.length
noncomputable def k_Same : Nat × Con := (n_codesearchref23_Same, conHH (fun l m => gHk l && gHk m) fun l m => [.bool (decide (l = m))])
/-- The lines behind the hunks. -/
def appG (a : List W) : Nat → List Hk → List W
  | i, [] => a.drop i
  | i, h :: l => (a.take h.fr.toNat).drop i ++ (h.ls ++ appG a h.to.toNat l)
def invG (a : List W) : Int → List Hk → List Hk
  | _, [] => []
  | v, h :: l => ⟨h.fr + v, h.fr + v + (h.ls.length : Nat), (a.take h.to.toNat).drop h.fr.toNat⟩ :: invG a (v + ((h.ls.length : Nat) - (h.to - h.fr))) l
def gAp (a : List W) (l : List Hk) : Bool := sm a.length && (Nat.ble l.length 1000 && l.all fun h => Nat.ble h.ls.length 100000)
def applyF (a : List W) (l : List Hk) : List W := cond (rightF l (a.length : Nat) == 0) (appG a 0 l) []
def invF (a : List W) (l : List Hk) : List Hk := cond (rightF l (a.length : Nat) == 0) (invG a 0 l) []
noncomputable def k_apply : Nat × Con := (n_diff_Apply, conSH gAp fun a l => [.lst 9 (eSs (applyF a l)), .int .i64 (rightF l (a.length : Nat))])
noncomputable def k_rapply : Nat × Con := (n_codesearchref23_Apply, conSH gAp fun a l => [.lst 9 (eSs (applyF a l)), .int .i64 (rightF l (a.length : Nat))])
noncomputable def k_inv : Nat × Con := (n_diff_Invert, conSH gAp fun a l => [.lst 46 (eHs (invF a l)), .int .i64 (rightF l (a.length : Nat))])
noncomputable def k_rinv : Nat × Con := (n_codesearchref23_Invert, conSH gAp fun a l => [.lst 46 (eHs (invF a l)), .int .i64 (rightF l (a.length : Nat))])
end Go.Ab
namespace Go.Ab
open Go.Proofs

/-! ### bytes in a slice; the builder -/
def eB (l : List UInt8) : List (List L) := l.map fun b => [.int .u8 b.toNat]
def dB (xs : List (List L)) : List UInt8 := xs.map fun e => UInt8.ofNat (cI 0 e).toNat
theorem dB_e (l : List UInt8) : dB (eB l) = l := by
  unfold dB eB
  rw [List.map_map]
  exact List.map_id'' (fun b => by
    show UInt8.ofNat (Int.toNat (b.toNat : Int)) = b
    rw [Int.toNat_natCast, UInt8.ofNat_toNat]) l
open Classical in
noncomputable def isBy (xs : List (List L)) : Bool := decide (eB (dB xs) = xs)
theorem isBy_e (l : List UInt8) : isBy (eB l) = true := by
  unfold isBy
  rw [dB_e]
  simp
theorem isBy_of {xs : List (List L)} (h : isBy xs = true) : ∃ l, xs = eB l := by
  unfold isBy at h
  have h' : eB (dB xs) = xs := by simpa using h
  exact ⟨_, h'.symm⟩
theorem bytesOf_e (s : ByteArray) : bytesOf s = eB (bl s) := rfl
theorem eB_app (a b : List UInt8) : eB a ++ eB b = eB (a ++ b) := (List.map_append ..).symm
def k_cc : Nat × Con := (n_strings_Builder_copyCheck, fun
  | [.lf (.ptr 0 0)], [.box [.oth, .sl 5] [.slf 0 0, .row 1], .row 5 xs true] => some (true, [.any, .lst 5 xs])
  | _, _ => none)
noncomputable def k_ws : Nat × Con := (n_strings_Builder_WriteString, fun
  | [.lf (.ptr 0 0), .lf (.str s)], [.box [.oth, .sl 5] [.slf 0 0, .row 1], .row 5 xs true] => some (isBy xs && Nat.ble (xs.length + s.size) 100000000000, [.int .i64 s.size, .any, .any, .lst 5 (xs ++ bytesOf s)])
  | _, _ => none)
noncomputable def k_bs : Nat × Con := (n_strings_Builder_String, fun
  | [.lf (.ptr 0 0)], [.box [.oth, .sl 5] [.slf 0 0, .row 1], .row 5 xs true] => some (isBy xs && Nat.ble xs.length 100000000000, [.str (mk (dB xs)), .any, .any])
  | _, _ => none)
/-- Decimal digits. -/
def digF : Nat → Nat → List UInt8
  | 0, _ => []
  | f + 1, n => (if n < 10 then [] else digF f (n / 10)) ++ [UInt8.ofNat (48 + n % 10)]
def dig (n : Nat) : List UInt8 := digF 20 n
def k_Itoa : Nat × Con := (n_strconv_Itoa, fun
  | [.lf (.int .i64 n)], [] => some (leI 0 n && leI n 1000000000000000, [.str (mk (dig n.toNat))])
  | _, _ => none)
/-- A text cut at each byte c. -/
def spl (c : UInt8) : List UInt8 → List W
  | [] => [[]]
  | x :: l => if x = c then [] :: spl c l else match spl c l with
    | [] => [[x]]
    | h :: t => (x :: h) :: t
def k_Split : Nat × Con := (n_strings_Split, fun
  | [.lf (.str s), .lf (.str p)], [] => some (Nat.ble s.size 1000000000 && Nat.beq p.size 1, [.lst 9 (eSs (spl ((bl p).getD 0 0) (bl s)))])
  | _, _ => none)
def k_hasP : Nat × Con := (n_strings_HasPrefix, fun
  | [.lf (.str s), .lf (.str p)], [] => some (Nat.ble s.size 1000000000 && Nat.ble p.size 1000000000, [.bool ((bl p).isPrefixOf (bl s))])
  | _, _ => none)
end Go.Ab
namespace Go.Ab
open Go.Proofs

def isDg (c : UInt8) : Bool := Nat.ble 48 c.toNat && Nat.ble c.toNat 57
def numOk (s : W) : Bool := Nat.ble 1 s.length && (Nat.ble s.length 9 && (!(Nat.ble 2 s.length && ((s.getD 0 0).toNat == 48)) && s.all isDg))
def numV (s : W) : Nat := s.foldl (fun n c => 10 * n + (c.toNat - 48)) 0
def numR (s : W) : Int := cond (numOk s) (numV s) 0
noncomputable def k_number : Nat × Con := (n_diff_number, conT (fun s => sm s.length) fun s => [.int .i64 (numR s), .bool (numOk s)])
/-- The number and the bytes that it takes, a byte behind it; none if there is none. -/
def dgs (l : W) : W := (l.take 9).takeWhile isDg
def rnumOk (l : W) (e : Int) : Bool := Nat.ble 1 (dgs l).length && (Nat.blt (dgs l).length l.length && (((l.getD (dgs l).length 0).toNat : Int) == e))
def gRn (s : W) (i : Int) : Bool := sm s.length && (leI 0 i && leI i (s.length : Nat))
def rnV (s : W) (i e : Int) : Int := cond (rnumOk (s.drop i.toNat) e) (numV (dgs (s.drop i.toNat))) 0
def rnI (s : W) (i e : Int) : Int := cond (rnumOk (s.drop i.toNat) e) (i + ((dgs (s.drop i.toNat)).length + 1 : Nat)) (-1)
noncomputable def k_rnum : Nat × Con := (n_codesearchref23_number, fun
  | [.lf (.str s), .lf (.int .i64 i), .lf (.int .u8 e)], [] => some (gRn (bl s) i, [.int .i64 (rnV (bl s) i e), .int .i64 (rnI (bl s) i e)])
  | _, _ => none)
/-- The bytes in front of the next line feed. -/
def lnW (l : W) : W := l.takeWhile fun c => !(c.toNat == 10)
def lnE (s : W) (i : Int) : Int := i + ((lnW (s.drop i.toNat)).length : Nat)
noncomputable def k_line : Nat × Con := (n_codesearchref23_line, conTI gRn fun s i => [.int .i64 (lnE s i)])
def digS (n : Int) : ByteArray := mk (dig n.toNat)
def gDg (n : Int) : Bool := leI 0 n && leI n 1000000000000000
noncomputable def k_digits : Nat × Con := (n_codesearchref23_digits, fun
  | [.lf (.int .i64 n)], [] => some (gDg n, [.str (digS n)])
  | _, _ => none)
/-- The first line of a hunk. -/
def hdG (s : W) : Bool := ([64] : W).isPrefixOf s && Nat.beq (spl 32 (s.drop 1)).length 3
def hdA (s : W) (k : Nat) : W := (spl 32 (s.drop 1)).getD k []
def hdOk (s : W) : Nat → Bool
  | 0 => hdG s
  | k + 1 => hdOk s k && numOk (hdA s k)
def hdV (s : W) (k : Nat) : Int := cond (hdOk s (k + 1)) (numR (hdA s k)) 0
noncomputable def k_head : Nat × Con := (n_diff_head, conT (fun s => sm s.length) fun s => [.int .i64 (hdV s 0), .int .i64 (hdV s 1), .int .i64 (hdV s 2), .bool (hdOk s 3)])
def k_lhasP : Nat × Con := (n_internal_stringslite_HasPrefix, k_hasP.2)
end Go.Ab
namespace Go.Ab
open Go.Proofs

/-! ### printed -/
def lnT (w : W) : W := 43 :: (w ++ [10])
def hkT (h : Hk) : W := 64 :: (dig h.fr.toNat ++ 32 :: (dig (h.to - h.fr).toNat ++ 32 :: (dig h.ls.length ++ [10])))
def prF (l : List Hk) : W := l.flatMap fun h => hkT h ++ h.ls.flatMap lnT
def hkOk (h : Hk) : Bool := leI 0 h.fr && (leI h.fr h.to && (leI h.to 1000000000 && (Nat.ble h.ls.length 2000 && h.ls.all fun w => Nat.ble w.length 2000)))
def prOk (l : List Hk) : Bool := Nat.ble l.length 2000 && l.all hkOk
noncomputable def k_dPrint : Nat × Con := (n_diff_Print, conH prOk fun l => [.str (mk (prF l))])
noncomputable def k_rPrint : Nat × Con := (n_codesearchref23_Print, conH prOk fun l => [.str (mk (prF l))])

/-! ### read -/
def plusAll (rows : List W) : Bool := rows.all fun r => ([43] : W).isPrefixOf r
def parL : Nat → List W → Option (List Hk)
  | _, [] => some []
  | 0, _ => none
  | f + 1, r :: rows =>
    if hdOk r 3 = true ∧ hdV r 2 ≤ (rows.length : Nat) ∧ plusAll (rows.take (hdV r 2).toNat) = true then
      match parL f (rows.drop (hdV r 2).toNat) with
      | some l => some (⟨hdV r 0, hdV r 0 + hdV r 1, (rows.take (hdV r 2).toNat).map (·.drop 1)⟩ :: l)
      | none => none
    else none
def parR (s : W) : Option (List Hk) :=
  if s = [] then some [] else if (s.getD (s.length - 1) 0).toNat = 10 then
    match parL (spl 10 (s.take (s.length - 1))).length (spl 10 (s.take (s.length - 1))) with
    | some l => if rightF l 2000 = 0 then some l else none
    | none => none
  else none
noncomputable def k_dParse : Nat × Con := (n_diff_Parse, conT (fun s => sm s.length) fun s => [.lst 46 (eHs ((parR s).getD [])), .int .i64 (cond (parR s).isSome 0 3)])

/-! ### read by the reference -/
def rn (l : W) (e : Int) : Option (Nat × W) := if rnumOk l e = true then some (numV (dgs l), l.drop ((dgs l).length + 1)) else none
def rls : Nat → W → Option (List W × W)
  | 0, l => some ([], l)
  | n + 1, l => match l with
    | [] => none
    | c :: t => if c.toNat = 43 ∧ (lnW (c :: t)).length < (c :: t).length then
        match rls n ((c :: t).drop ((lnW (c :: t)).length + 1)) with
        | some (ls, r) => some ((lnW (c :: t)).drop 1 :: ls, r)
        | none => none
      else none
def rhk : W → Option (Hk × W)
  | [] => none
  | c :: t => if c.toNat = 64 then
      match rn t 32 with
      | none => none
      | some (a, t) => match rn t 32 with
        | none => none
        | some (b, t) => match rn t 10 with
          | none => none
          | some (n, t) => match rls n t with
            | none => none
            | some (ls, t) => some (⟨a, a + b, ls⟩, t)
    else none
def hk0 : Hk := ⟨0, 0, []⟩
def rhH (l : W) : Hk := match rhk l with
  | some (h, _) => h
  | none => hk0
def rhI (s l : W) : Int := match rhk l with
  | some (_, r) => ((s.length - r.length : Nat) : Int)
  | none => -1
noncomputable def k_rhunk : Nat × Con := (n_codesearchref23_hunk, conTI (fun s i => gRn s i) fun s i => [.int .i64 (rhH (s.drop i.toNat)).fr, .int .i64 (rhH (s.drop i.toNat)).to, .lst 9 (eSs (rhH (s.drop i.toNat)).ls), .int .i64 (rhI s (s.drop i.toNat))])
def rpar : Nat → W → Option (List Hk)
  | _, [] => some []
  | 0, _ => none
  | f + 1, s => match rhk s with
    | none => none
    | some (h, r) => match rpar f r with
      | none => none
      | some l => some (h :: l)
def rparR (s : W) : Option (List Hk) := match rpar s.length s with
  | some l => if rightF l 2000 = 0 ∧ prF l = s then some l else none
  | none => none
noncomputable def k_rParse : Nat × Con := (n_codesearchref23_Parse, conT (fun s => Nat.ble s.length 2000) fun s => [.lst 46 (eHs ((rparR s).getD [])), .int .i64 (cond (rparR s).isSome 0 3)])
end Go.Ab
namespace Go.Ab
open Go.Proofs
def gNr (x : Int) : Bool := leI (-1000000000) x && leI x 1000000000
def k_cmp : Nat × Con := (n_diff_Merge_1, fun
  | [.agg [.int .i64 a, .int .i64 _, .lst 9 _], .agg [.int .i64 c, .int .i64 _, .lst 9 _]], [] => some (gNr a && gNr c, [.int .i64 (a - c)])
  | _, _ => none)
def insH (h : Hk) : List Hk → List Hk
  | [] => [h]
  | g :: l => if h.fr < g.fr then h :: g :: l else g :: insH h l
def srtH (l : List Hk) : List Hk := l.foldl (fun acc h => insH h acc) []
/-- A part of a list, sorted. -/
def srtP (l : List Hk) (a b : Nat) : List Hk := l.take a ++ (srtH ((l.take b).drop a) ++ l.drop b)
def gSo (l : List Hk) (a b : Int) : Bool := sm l.length && (leI 0 a && (leI a b && (leI b (l.length : Nat) && l.all fun h => gNr h.fr)))
noncomputable def k_isort : Nat × Con := (n_slices_insertionSortCmpFunc, fun
  | [.lf (.ars 0), .lf (.int .i64 a), .lf (.int .i64 b), .lf (.clo 45 [])], [.arr 46 xs] => some (isHs xs && gSo (dHs xs) a b, [.lst 46 (eHs (srtP (dHs xs) a.toNat b.toNat))])
  | _, _ => none)
/-- Keys in order, all different. -/
def incH : List Hk → Bool
  | [] => true
  | h :: l => l.all (fun g => ltI h.fr g.fr) && incH l
def difH : List Hk → Bool
  | [] => true
  | h :: l => l.all (fun g => !(g.fr == h.fr)) && difH l
def gSy (l : List Hk) (a m b : Int) : Bool := gSo l a b && (ltI a m && (ltI m b && (incH ((l.take m.toNat).drop a.toNat) && (incH ((l.take b.toNat).drop m.toNat) && difH ((l.take b.toNat).drop a.toNat)))))
noncomputable def k_sym : Nat × Con := (n_slices_symMergeCmpFunc, fun
  | [.lf (.ars 0), .lf (.int .i64 a), .lf (.int .i64 m), .lf (.int .i64 b), .lf (.clo 45 [])], [.arr 46 xs] => some (isHs xs && gSy (dHs xs) a m b, [.lst 46 (eHs (srtP (dHs xs) a.toNat b.toNat))])
  | _, _ => none)
def gSt (l : List Hk) : Bool := Nat.ble l.length 1000 && (difH l && l.all fun h => gNr h.fr)
noncomputable def k_stable : Nat × Con := (n_slices_stableCmpFunc, fun
  | [.lf (.ars 0), .lf (.int .i64 n), .lf (.clo 45 [])], [.arr 46 xs] => some (isHs xs && (gSt (dHs xs) && n == ((dHs xs).length : Nat)), [.lst 46 (eHs (srtH (dHs xs)))])
  | _, _ => none)
noncomputable def k_sort : Nat × Con := (n_slices_SortStableFunc, fun
  | [.lf (.ars 0), .lf (.clo 45 [])], [.arr 46 xs] => some (isHs xs && gSt (dHs xs), [.lst 46 (eHs (srtH (dHs xs)))])
  | _, _ => none)
end Go.Ab
namespace Go.Ab
open Go.Proofs
def slc (l : List Hk) (a b : Nat) : List Hk := (l.take b).drop a
def swpF (l : List Hk) (a b n : Nat) : List Hk := l.take a ++ (slc l b (b + n) ++ (slc l (a + n) b ++ (slc l a (a + n) ++ l.drop (b + n))))
def rotF (l : List Hk) (a m b : Nat) : List Hk := l.take a ++ (slc l m b ++ (slc l a m ++ l.drop b))
def gSw (l : List Hk) (a b n : Int) : Bool := sm l.length && (leI 0 a && (leI 0 n && (leI (a + n) b && leI (b + n) (l.length : Nat))))
noncomputable def k_swap : Nat × Con := (n_slices_swapRangeCmpFunc, fun
  | [.lf (.ars 0), .lf (.int .i64 a), .lf (.int .i64 b), .lf (.int .i64 n), .lf (.clo 45 [])], [.arr 46 xs] => some (isHs xs && gSw (dHs xs) a b n, [.lst 46 (eHs (swpF (dHs xs) a.toNat b.toNat n.toNat))])
  | _, _ => none)
def gRo (l : List Hk) (a m b : Int) : Bool := sm l.length && (leI 0 a && (ltI a m && (ltI m b && leI b (l.length : Nat))))
noncomputable def k_rot : Nat × Con := (n_slices_rotateCmpFunc, fun
  | [.lf (.ars 0), .lf (.int .i64 a), .lf (.int .i64 m), .lf (.int .i64 b), .lf (.clo 45 [])], [.arr 46 xs] => some (isHs xs && gRo (dHs xs) a m b, [.lst 46 (eHs (rotF (dHs xs) a.toNat m.toNat b.toNat))])
  | _, _ => none)
noncomputable def k_symN (n : Nat) : Nat × Con := (n_slices_symMergeCmpFunc, fun
  | [.lf (.ars 0), .lf (.int .i64 a), .lf (.int .i64 m), .lf (.int .i64 b), .lf (.clo 45 [])], [.arr 46 xs] => some (isHs xs && (gSy (dHs xs) a m b && leI (b - a) n), [.lst 46 (eHs (srtP (dHs xs) a.toNat b.toNat))])
  | _, _ => none)
end Go.Ab
namespace Go.Ab
open Go.Proofs
/-- Two hunks are in conflict. -/
def cfl (y x : Hk) : Bool := !decide (x = y) && (leI y.fr x.to && leI x.fr y.to)
def mgC (l ms : List Hk) : Bool := ms.any fun y => l.any (cfl y)
def newH (l : List Hk) (y : Hk) : Bool := !l.any fun x => decide (x = y)
def mgA (l ms : List Hk) : List Hk := l ++ ms.filter (newH l)
def gMg (a b c : List W) : Bool := Nat.ble a.length 400 && (Nat.ble b.length 400 && Nat.ble c.length 400)
def mgL (base : List W) (l m : List Hk) : List W := cond (mgC l m) [] (applyF base (srtH (mgA l m)))
def mgE (base : List W) (l m : List Hk) : Int := cond (mgC l m) 14 (rightF (srtH (mgA l m)) (base.length : Nat))
noncomputable def k_Merge : Nat × Con := (n_diff_Merge, conSSS gMg fun o a b => [.lst 9 (eSs (mgL o (lnF o a) (lnF o b))), .int .i64 (mgE o (lnF o a) (lnF o b))])
def mrgF : Nat → List Hk → List Hk → Option (List Hk)
  | _, [], ys => some ys
  | _, x :: xs, [] => some (x :: xs)
  | 0, _ :: _, _ :: _ => none
  | f + 1, x :: xs, y :: ys =>
    if x.to < y.fr then match mrgF f xs (y :: ys) with
      | some l => some (x :: l)
      | none => none
    else if y.to < x.fr then match mrgF f (x :: xs) ys with
      | some l => some (y :: l)
      | none => none
    else if x = y then match mrgF f xs ys with
      | some l => some (x :: l)
      | none => none
    else none
def mrg (xs ys : List Hk) : Option (List Hk) := mrgF (xs.length + ys.length) xs ys
def rmL (base : List W) (o : Option (List Hk)) : List W := match o with
  | some l => applyF base l
  | none => []
def rmE (base : List W) (o : Option (List Hk)) : Int := match o with
  | some l => rightF l (base.length : Nat)
  | none => 14
noncomputable def k_rMerge : Nat × Con := (n_codesearchref23_Merge, conSSS gMg fun o a b => [.lst 9 (eSs (rmL o (mrg (lnF o a) (lnF o b)))), .int .i64 (rmE o (mrg (lnF o a) (lnF o b)))])
end Go.Ab
namespace Go.Ab
open Go.Proofs
def k_one : Nat × Con := (n_codesearchlaw23_one, fun
  | [.lf (.int .i64 a), .lf (.int .i64 b), .lf (.lst 9 xs)], [] => some (true, [.lst 46 [[.int .i64 a, .int .i64 b, .lst 9 xs]]])
  | _, _ => none)
def k_alive : Nat × Con := (n_codesearchlaw23_alive, fun
  | [], [] => some (true, [.bool true])
  | _, _ => none)
/-- Whatever the arguments are. -/
noncomputable def k_fewA : Nat × Con := (n_codesearchlaw23_few, conS (fun _ => true) fun a => [.bool (fewF a)])
noncomputable def k_hunksA : Nat × Con := (n_codesearchlaw23_hunks, conH (fun _ => true) fun a => [.bool (hunksF a)])
end Go.Ab
namespace Go.Ab
open Go.Proofs

theorem drop_at {α : Type} (d : α) {l : List α} {i : Nat} (h : i < l.length) : l.drop i = l.getD i d :: l.drop (i + 1) := by
  rw [List.drop_eq_getElem_cons h]
  simp [h]
theorem drop_end {α : Type} {l : List α} {i : Nat} (h : l.length ≤ i) : l.drop i = [] := List.drop_eq_nil_of_le h
theorem not_beq_bl {x y : W} : (!bl (mk x) == bl (mk y)) = !decide (x = y) := by rw [beq_bl]

theorem next_loop (b : List W) (x : W) (hb : b.length ≤ 1000000) : ∀ m j : Nat, j + m = b.length → Runs (cfg []) (next_q1 (eSs b) (j : Nat) (mk x)) [.int .i64 ((j : Int) + (idx x (b.drop j) : Nat))]
  | 0, j, h => by
    refine Runs.by (next_p1 · _ _ _) ?_
    simp (disch := omega) only [eSs_len, ev_lt_f, cond_false]
    rw [drop_end (by omega), idx]
    exact .ret' (by simp)
  | m + 1, j, h => by
    have ih := next_loop b x hb m (j + 1) (by omega)
    have hj : j < b.length := by omega
    refine Runs.by (next_p1 · _ _ _) ?_
    simp (disch := omega) only [eSs_len, ev_lt_t, ev_le_t, Bool.and_self, cond_true, eSs_at, cT_e, not_beq_bl, w64]
    rw [drop_at [] hj, idx]
    by_cases e : b.getD j [] = x
    · simp only [decide_eq_true e, Bool.not_true, cond_false, if_pos e]
      exact .ret' (by simp)
    · simp only [decide_eq_false e, Bool.not_false, cond_true, if_neg e]
      have e1 : ((j : Int) + ((idx x (List.drop (j + 1) b) + 1 : Nat) : Int)) = ((j + 1 : Nat) : Int) + (idx x (b.drop (j + 1)) : Nat) := by omega
      rw [e1]
      exact .go ih
theorem next_holds : Holds k_next := con_run (xs := []) hold0 fun aa hp r h => by
  split at h
  case h_2 => cases h
  rename_i bs j x
  obtain ⟨g, rfl⟩ := xo h
  simp only [Bool.and_eq_true] at g
  obtain ⟨b, rfl⟩ := isSs_of g.1
  rw [eSs_len] at g
  have hb := sm_of g.2.2
  have h1 := leI_t g.2.1.1
  have h2 := leI_t g.2.1.2
  obtain ⟨j, rfl⟩ := Int.eq_ofNat_of_zero_le h1
  rw [dSs_e]
  refine Runs.by (next_e · _ _ _) ?_
  have := next_loop b (bl x) hb (b.length - j) j (by omega)
  exact .go this
theorem clS_holds : Holds k_clS := conS_of (ks := []) hold0 fun a g => by
  have ha := sm_of g
  refine Runs.by (clS_e · _) ?_
  rw [eSs_len, roomN_t (by omega) (by omega)]
  simp only [cond_true, List.nil_append]
  cases a with
  | nil =>
    show RunsF _ (fun _ => both (some [.lst 9 (eSs [])]) (some [.lst 9 (eSs [])])) _
    simp only [both_self]
    exact .ret
  | cons x a => exact .ret
theorem clH_holds : Holds k_clH := conH_of (ks := []) hold0 fun a g => by
  have ha := sm_of g
  refine Runs.by (clH_e · _) ?_
  rw [eHs_len, roomN_t (by omega) (by omega)]
  simp only [cond_true, List.nil_append]
  cases a with
  | nil =>
    show RunsF _ (fun _ => both (some [.lst 46 (eHs [])]) (some [.lst 46 (eHs [])])) _
    simp only [both_self]
    exact .ret
  | cons x a => exact .ret
theorem gap_holds : Holds k_gap := con_run (xs := []) hold0 fun aa hp r h => by
  split at h
  case h_2 => cases h
  rename_i x p ls hs
  obtain ⟨g, rfl⟩ := xo h
  simp only [Bool.and_eq_true] at g
  have h1 := sm_of g.2.2.1
  have h2 := sm_of g.2.2.2
  refine Runs.by (gap_e · _ _ _ _) ?_
  rw [roomN_t (by omega) (by omega), roomN_t (by omega) (by omega)]
  simp only [cond_true, List.nil_append]
  have e : ((ls.length : Int) == 0) = Nat.beq ls.length 0 := by
    rw [Bool.eq_iff_iff, beq_iff_eq, Nat.beq_eq]; omega
  rw [e]
  cases x == p
  · exact .ret
  · cases Nat.beq ls.length 0
    · exact .ret
    · exact .ret' (by simp)
theorem few_loop (a : List W) (ha : a.length ≤ 1000000) : ∀ m i : Nat, i + m = a.length → Runs (cfg []) (few_q4 (eSs a) (i : Nat)) [.bool ((a.drop i).all fun s => Nat.ble s.length 200)]
  | 0, i, h => by
    refine Runs.by (few_p4 · _ _) ?_
    simp (disch := omega) only [eSs_len, ev_lt_f, cond_false]
    rw [drop_end (by omega)]
    exact .ret
  | m + 1, i, h => by
    have ih := few_loop a ha m (i + 1) (by omega)
    have hi : i < a.length := by omega
    refine Runs.by (few_p4 · _ _) ?_
    simp (disch := omega) only [eSs_len, ev_lt_t, ev_le_t, Bool.and_self, cond_true, eSs_at, cT_e, size_mk, w64]
    rw [drop_at [] hi, List.all_cons]
    refine RunsF.cond (fun hc => ?_) (fun hc => ?_)
    · have hc := ltI_t hc
      have e : Nat.ble (a.getD i []).length 200 = false := by
        rw [← Bool.not_eq_true, Nat.ble_eq]; omega
      rw [e]
      exact .ret
    · have hc := ltI_f hc
      have e : Nat.ble (a.getD i []).length 200 = true := by rw [Nat.ble_eq]; omega
      rw [e, Bool.true_and]
      exact .go ih
theorem few_holds : Holds k_few := conS_of (ks := []) hold0 fun a g => by
  have ha := sm_of g
  refine Runs.by (few_e · _) ?_
  rw [eSs_len]
  refine RunsF.cond (fun hc => ?_) (fun hc => ?_)
  · have hc := ltI_t hc
    have e : Nat.ble a.length 40 = false := by rw [← Bool.not_eq_true, Nat.ble_eq]; omega
    unfold fewF
    rw [e]
    exact .ret
  · have hc := ltI_f hc
    have e : Nat.ble a.length 40 = true := by rw [Nat.ble_eq]; omega
    unfold fewF
    rw [e, Bool.true_and]
    exact .go (few_loop a ha a.length 0 (by omega))
theorem marked_loop (a : List W) (ha : a.length ≤ 1000000) : ∀ m i : Nat, i + m = a.length → Runs (cfg []) (marked_q2 (eSs a) (i : Nat)) [.bool (markedF (a.drop i))]
  | 0, i, h => by
    refine Runs.by (marked_p2 · _ _) ?_
    simp (disch := omega) only [eSs_len, ev_lt_f, cond_false]
    rw [drop_end (by omega)]
    exact .ret
  | m + 1, i, h => by
    have ih := marked_loop a ha m (i + 1) (by omega)
    have hi : i < a.length := by omega
    refine Runs.by (marked_p2 · _ _) ?_
    simp (disch := omega) only [eSs_len, ev_lt_t, ev_le_t, Bool.and_self, cond_true, eSs_at, cT_e, size_mk, w64]
    rw [drop_at [] hi]
    unfold markedF
    rw [List.all_cons]
    have e0 : byI (mk (a.getD i [])) 0 = (((a.getD i []).getD 0 0).toNat : Int) := byI_mk _ 0
    rw [e0]
    refine RunsF.cond (fun hc => ?_) (fun hc => ?_)
    · have hc' := ltI_t hc
      rw [Nat.ble_eq_true_of_le (by omega : 1 ≤ (a.getD i []).length), Bool.true_and]
      simp only [hc, cond_true]
      have e : ((((a.getD i []).getD 0 0).toNat : Int) == 10) = (((a.getD i []).getD 0 0).toNat == 10) := by
        rw [Bool.eq_iff_iff, beq_iff_eq, beq_iff_eq]; omega
      rw [e]
      refine RunsF.cond (fun hd => ?_) (fun hd => ?_)
      · rw [hd]; exact .ret
      · rw [hd, Bool.not_false, Bool.true_and]; exact .go ih
    · have hc' := ltI_f hc
      have e : Nat.ble 1 (a.getD i []).length = false := by rw [← Bool.not_eq_true, Nat.ble_eq]; omega
      rw [e, Bool.false_and, Bool.not_false, Bool.true_and]
      exact .go ih
theorem marked_holds : Holds k_marked := conS_of (ks := []) hold0 fun a g => by
  have ha := sm_of g
  refine Runs.by (marked_e · _) ?_
  exact .go (marked_loop a ha a.length 0 (by omega))
/-- Equality of lists, told from the front. -/
theorem eq_step {a b : List W} {i : Nat} (h : a.length = b.length) (hi : i < a.length) : decide (a.drop i = b.drop i) = (decide (a.getD i [] = b.getD i []) && decide (a.drop (i + 1) = b.drop (i + 1))) := by
  rw [drop_at [] hi, drop_at (l := b) [] (by omega), Bool.eq_iff_iff, Bool.and_eq_true, decide_eq_true_eq, decide_eq_true_eq, decide_eq_true_eq, List.cons.injEq]
theorem stext_loop (a b : List W) (ha : a.length ≤ 1000000) (hl : a.length = b.length) : ∀ m i : Nat, i + m = a.length → Runs (cfg []) (stext_q4 (eSs a) (eSs b) (i : Nat)) [.bool (decide (a.drop i = b.drop i))]
  | 0, i, h => by
    refine Runs.by (stext_p4 · _ _ _) ?_
    simp (disch := omega) only [eSs_len, ev_lt_f, cond_false]
    rw [drop_end (by omega), drop_end (by omega), decide_eq_true rfl]
    exact .ret
  | m + 1, i, h => by
    have ih := stext_loop a b ha hl m (i + 1) (by omega)
    refine Runs.by (stext_p4 · _ _ _) ?_
    simp (disch := omega) only [eSs_len, ev_lt_t, ev_le_t, Bool.and_self, cond_true, eSs_at, cT_e, not_beq_bl, w64]
    rw [eq_step hl (by omega)]
    by_cases e : a.getD i [] = b.getD i []
    · simp only [decide_eq_true e, Bool.not_true, cond_false, Bool.true_and]
      exact .go ih
    · simp only [decide_eq_false e, Bool.not_false, cond_true, Bool.false_and]
      exact .ret
theorem stext_holds : Holds k_stext := conSS_of (ks := []) hold0 fun a b g => by
  unfold gLL at g
  rw [Bool.and_eq_true] at g
  have ha := sm_of g.1
  refine Runs.by (stext_e · _ _) ?_
  rw [eSs_len, eSs_len]
  by_cases hl : a.length = b.length
  · rw [ev_ne_f (by omega)]
    exact .go (stext_loop a b ha hl a.length 0 (by omega))
  · rw [ev_ne_t (by omega), decide_eq_false (fun e => hl (congrArg _ e))]
    exact .ret
theorem equal_loop (a b : List W) (ha : a.length ≤ 1000000) (hl : a.length = b.length) : ∀ m i : Nat, i + m = a.length → Runs (cfg []) (equal_q4 (eSs a) (eSs b) (a.length : Nat) (i : Nat)) [.bool (decide (a.drop i = b.drop i))]
  | 0, i, h => by
    refine Runs.by (equal_p4 · _ _ _ _) ?_
    simp (disch := omega) only [eSs_len, ev_lt_f, cond_false]
    rw [drop_end (by omega), drop_end (by omega), decide_eq_true rfl]
    exact .ret
  | m + 1, i, h => by
    have ih := equal_loop a b ha hl m (i + 1) (by omega)
    refine Runs.by (equal_p4 · _ _ _ _) ?_
    simp (disch := omega) only [eSs_len, ev_lt_t, ev_le_t, Bool.and_self, cond_true, eSs_at, cT_e, not_beq_bl, w64]
    rw [eq_step hl (by omega)]
    by_cases e : a.getD i [] = b.getD i []
    · simp only [decide_eq_true e, Bool.not_true, cond_false, Bool.true_and]
      exact .go ih
    · simp only [decide_eq_false e, Bool.not_false, cond_true, Bool.false_and]
      exact .ret
theorem equal_holds : Holds k_equal := conSS_of (ks := []) hold0 fun a b g => by
  unfold gLL at g
  rw [Bool.and_eq_true] at g
  have ha := sm_of g.1
  refine Runs.by (equal_e · _ _) ?_
  rw [eSs_len, eSs_len]
  by_cases hl : a.length = b.length
  · rw [ev_ne_f (by omega)]
    exact .go (equal_loop a b ha hl a.length 0 (by omega))
  · rw [ev_ne_t (by omega), decide_eq_false (fun e => hl (congrArg _ e))]
    exact .ret
/-! ### the distance -/
theorem near_of {n : Int} (h : near n = true) : -1000000000 ≤ n ∧ n ≤ 1000000000 := by
  unfold near at h
  rw [Bool.and_eq_true] at h
  exact ⟨leI_t h.1, leI_t h.2⟩
theorem near_t {n : Int} (h1 : -1000000000 ≤ n) (h2 : n ≤ 1000000000) : near n = true := by
  unfold near
  rw [ev_le_t h1, ev_le_t h2]
  rfl
theorem gDi_at {l : List Hk} (g : gDi l = true) {i : Nat} (hi : i < l.length) : (-1000000000 ≤ (l.getD i default).fr ∧ (l.getD i default).fr ≤ 1000000000) ∧ (-1000000000 ≤ (l.getD i default).to ∧ (l.getD i default).to ≤ 1000000000) ∧ (l.getD i default).ls.length ≤ 1000000 := by
  unfold gDi at g
  rw [Bool.and_eq_true] at g
  have hm : l.getD i default ∈ l := by simp [List.getD_eq_getElem?_getD, hi]
  have := List.all_eq_true.1 g.2 _ hm
  simp only [Bool.and_eq_true] at this
  exact ⟨near_of this.1.1, near_of this.1.2, sm_of this.2⟩
theorem gDi_len {l : List Hk} (g : gDi l = true) : l.length ≤ 1000000 := by
  unfold gDi at g
  rw [Bool.and_eq_true] at g
  exact sm_of g.1
theorem dist_loop (l : List Hk) (g : gDi l = true) : ∀ m i (n : Int), i + m = l.length → -(2001000000 * (i : Int)) ≤ n → n ≤ 2001000000 * (i : Int) → Runs (cfg []) (dist_q3 n (eHs l) (l.length : Nat) (i : Nat)) [.int .i64 (n + distF (l.drop i))]
  | 0, i, n, h, h1, h2 => by
    refine Runs.by (dist_p3 · _ _ _ _) ?_
    simp (disch := omega) only [ev_lt_f, cond_false]
    rw [drop_end (by omega), distF]
    exact .ret' (by simp)
  | m + 1, i, n, h, h1, h2 => by
    have hl := gDi_len g
    have hi : i < l.length := by omega
    obtain ⟨⟨a1, a2⟩, ⟨a3, a4⟩, a5⟩ := gDi_at g hi
    refine Runs.by (dist_p3 · _ _ _ _) ?_
    simp (disch := omega) only [eHs_len, ev_lt_t, ev_le_t, Bool.and_self, cond_true, eHs_at, cI0_e, cI1_e, cX2_e, eSs_len, w64]
    rw [drop_at default hi, distF]
    have ih := (dist_loop l g m (i + 1) (n + ((l.getD i default).to - (l.getD i default).fr + ((l.getD i default).ls.length : Nat))) (by omega) (by omega) (by omega))
    rw [Int.add_assoc] at ih
    exact .go ih
theorem dist_holds : Holds k_dist := conH_of (ks := []) hold0 fun l g => by
  refine Runs.by (dist_e · _) ?_
  rw [eHs_len]
  have := dist_loop l g l.length 0 0 (by omega) (by omega) (by omega)
  rw [Int.zero_add] at this
  exact .go this
theorem rDist_loop (l : List Hk) (g : gDi l = true) : ∀ m i (n : Int), i + m = l.length → -(2001000000 * (i : Int)) ≤ n → n ≤ 2001000000 * (i : Int) → Runs (cfg []) (rDist_q3 (eHs l) n (i : Nat)) [.int .i64 (n + distF (l.drop i))]
  | 0, i, n, h, h1, h2 => by
    refine Runs.by (rDist_p3 · _ _ _) ?_
    simp (disch := omega) only [eHs_len, ev_lt_f, cond_false]
    rw [drop_end (by omega), distF]
    exact .ret' (by simp)
  | m + 1, i, n, h, h1, h2 => by
    have hl := gDi_len g
    have hi : i < l.length := by omega
    obtain ⟨⟨a1, a2⟩, ⟨a3, a4⟩, a5⟩ := gDi_at g hi
    refine Runs.by (rDist_p3 · _ _ _) ?_
    simp (disch := omega) only [eHs_len, ev_lt_t, ev_le_t, Bool.and_self, cond_true, eHs_at, cI0_e, cI1_e, cX2_e, eSs_len, w64]
    rw [drop_at default hi, distF]
    have e : n + (l.getD i default).to - (l.getD i default).fr + ((l.getD i default).ls.length : Int) = n + ((l.getD i default).to - (l.getD i default).fr + ((l.getD i default).ls.length : Nat)) := by omega
    rw [e]
    have ih := (rDist_loop l g m (i + 1) (n + ((l.getD i default).to - (l.getD i default).fr + ((l.getD i default).ls.length : Nat))) (by omega) (by omega) (by omega))
    rw [Int.add_assoc] at ih
    exact .go ih
theorem rDist_holds : Holds k_rDist := conH_of (ks := []) hold0 fun l g => by
  refine Runs.by (rDist_e · _) ?_
  have := rDist_loop l g l.length 0 0 (by omega) (by omega) (by omega)
  rw [Int.zero_add] at this
  exact .go this
/-! ### right hunks -/
def prevE (l : List Hk) : Nat → Option Int
  | 0 => none
  | i + 1 => some (l.getD i default).to
theorem nat0 (l : List W) : (((l.length : Int)) == 0) = Nat.beq l.length 0 := by
  rw [Bool.eq_iff_iff, beq_iff_eq, Nat.beq_eq]; omega
theorem right_loop (l : List Hk) (n : Int) (hl : l.length ≤ 1000000) : ∀ m i : Nat, i + m = l.length → Runs (cfg []) (right_q2 (eHs l) n (eHs l) (l.length : Nat) (i : Nat)) [.int .i64 (rightG n (prevE l i) (l.drop i))]
  | 0, i, h => by
    refine Runs.by (right_p2 · _ _ _ _ _) ?_
    simp (disch := omega) only [ev_lt_f, cond_false]
    rw [drop_end (by omega), rightG]
    exact .ret
  | m + 1, i, h => by
    have ih := right_loop l n hl m (i + 1) (by omega)
    have hi : i < l.length := by omega
    refine Runs.by (right_p2 · _ _ _ _ _) ?_
    simp (disch := omega) only [eHs_len, ev_lt_t, ev_le_t, Bool.and_self, cond_true, eHs_at, cI0_e, cI1_e, cX2_e, eSs_len, nat0, w64]
    rw [drop_at default hi, rightG_cons]
    refine RunsF.cond (fun h1 => ?_) (fun h1 => ?_)
    · rw [h1]; exact .ret
    refine RunsF.cond (fun h2 => ?_) (fun h2 => ?_)
    · rw [h1, h2]; exact .ret
    refine RunsF.cond (fun h3 => ?_) (fun h3 => ?_)
    · rw [h1, h2, h3]; exact .ret
    rw [h1, h2, h3]
    simp only [Bool.or_self, cond_false]
    cases i with
    | zero =>
      have e : ltI 0 ((0 : Nat) : Int) = false := rfl
      simp only [e, cond_false, prevE, prevLe]
      refine RunsF.cond (fun h4 => ?_) (fun h4 => ?_)
      · rw [h4, Bool.true_and]
        refine RunsF.cond (fun h5 => ?_) (fun h5 => ?_)
        · rw [h5]; exact .ret
        · rw [h5]; exact .go ih
      · rw [h4, Bool.false_and]; exact .go ih
    | succ k =>
      have e : ((k + 1 : Nat) : Int) - 1 = (k : Int) := by omega
      simp (disch := omega) only [ev_lt_t, ev_le_t, cond_true, e, eHs_at, cI1_e, Bool.and_self, prevE, prevLe]
      refine RunsF.cond (fun h4 => ?_) (fun h4 => ?_)
      · rw [h4]; exact .ret
      · rw [h4]
        simp only [cond_false]
        refine RunsF.cond (fun h5 => ?_) (fun h5 => ?_)
        · rw [h5, Bool.true_and]
          refine RunsF.cond (fun h6 => ?_) (fun h6 => ?_)
          · rw [h6]; exact .ret
          · rw [h6]; exact .go ih
        · rw [h5, Bool.false_and]; exact .go ih
theorem right_holds : Holds k_right := conHI_of (ks := []) hold0 fun l n g => by
  have hl := sm_of g
  refine Runs.by (right_e · _ _) ?_
  rw [eHs_len]
  exact .go (right_loop l n hl l.length 0 (by omega))
theorem rright_loop (l : List Hk) (n : Int) (hl : l.length ≤ 1000000) : ∀ m i : Nat, i + m = l.length → Runs (cfg []) (rright_q2 (eHs l) n (i : Nat)) [.int .i64 (rightG n (prevE l i) (l.drop i))]
  | 0, i, h => by
    refine Runs.by (rright_p2 · _ _ _) ?_
    simp (disch := omega) only [eHs_len, ev_lt_f, cond_false]
    rw [drop_end (by omega), rightG]
    exact .ret
  | m + 1, i, h => by
    have ih := rright_loop l n hl m (i + 1) (by omega)
    have hi : i < l.length := by omega
    refine Runs.by (rright_p2 · _ _ _) ?_
    simp (disch := omega) only [eHs_len, ev_lt_t, ev_le_t, Bool.and_self, cond_true, eHs_at, cI0_e, cI1_e, cX2_e, eSs_len, nat0, w64]
    rw [drop_at default hi, rightG_cons]
    refine RunsF.cond (fun h1 => ?_) (fun h1 => ?_)
    · rw [h1]; exact .ret
    refine RunsF.cond (fun h2 => ?_) (fun h2 => ?_)
    · rw [h1, h2]; exact .ret
    refine RunsF.cond (fun h3 => ?_) (fun h3 => ?_)
    · rw [h1, h2, h3]; exact .ret
    rw [h1, h2, h3]
    simp only [Bool.or_self, cond_false]
    cases i with
    | zero =>
      have e : ltI 0 ((0 : Nat) : Int) = false := rfl
      simp only [e, cond_false, prevE, prevLe]
      refine RunsF.cond (fun h4 => ?_) (fun h4 => ?_)
      · rw [h4, Bool.true_and]
        refine RunsF.cond (fun h5 => ?_) (fun h5 => ?_)
        · rw [h5]; exact .ret
        · rw [h5]; exact .go ih
      · rw [h4, Bool.false_and]; exact .go ih
    | succ k =>
      have e : ((k + 1 : Nat) : Int) - 1 = (k : Int) := by omega
      simp (disch := omega) only [ev_lt_t, ev_le_t, cond_true, e, eHs_at, cI1_e, Bool.and_self, prevE, prevLe]
      refine RunsF.cond (fun h4 => ?_) (fun h4 => ?_)
      · rw [h4]; exact .ret
      · rw [h4]
        simp only [cond_false]
        refine RunsF.cond (fun h5 => ?_) (fun h5 => ?_)
        · rw [h5, Bool.true_and]
          refine RunsF.cond (fun h6 => ?_) (fun h6 => ?_)
          · rw [h6]; exact .ret
          · rw [h6]; exact .go ih
        · rw [h5, Bool.false_and]; exact .go ih
theorem rright_holds : Holds k_rright := conHI_of (ks := []) hold0 fun l n g => by
  have hl := sm_of g
  refine Runs.by (rright_e · _ _) ?_
  exact .go (rright_loop l n hl l.length 0 (by omega))
/-! ### plain lines -/
theorem plain_s (l0 : List Hk) (i k : Nat) (s : W) (hs : s.length ≤ 1000000) (hk : k ≤ 1000000) {r : List L} (hn : Runs (cfg []) (plain_q5 (eHs l0) (i : Nat) ((k : Int) + 1)) r) (hr : (s.all fun c => !(c.toNat == 10)) = false → r = [.bool false]) :
    ∀ m j : Nat, j + m = s.length → (∀ q, q < j → ¬ (s.getD q 0).toNat = 10) → Runs (cfg []) (plain_q9 (eHs l0) (i : Nat) (k : Nat) (mk s) (j : Nat)) r
  | 0, j, h, hq => by
    refine Runs.by (plain_p9 · _ _ _ _ _) ?_
    simp (disch := omega) only [size_mk, ev_lt_f, cond_false, w64]
    exact .go hn
  | m + 1, j, h, hq => by
    refine Runs.by (plain_p9 · _ _ _ _ _) ?_
    simp (disch := omega) only [size_mk, ev_lt_t, ev_le_t, Bool.and_self, cond_true, byI_mk, w64]
    refine RunsF.cond (fun hc => ?_) (fun hc => ?_)
    · have hc : (s.getD j 0).toNat = 10 := by have := eq_of_beq hc; omega
      refine .ret' (hr ?_).symm
      rw [← Bool.not_eq_true, List.all_eq_true]
      intro hall
      have := hall (s.getD j 0) (by simp [List.getD_eq_getElem?_getD, show j < s.length by omega])
      rw [hc] at this
      simp at this
    · have hc : ¬ (s.getD j 0).toNat = 10 := by
        intro e; rw [e] at hc; simp at hc
      exact .go (plain_s l0 i k s hs hk hn hr m (j + 1) (by omega) fun q hq' => by
        by_cases e : q = j
        · subst e; exact hc
        · exact hq q (by omega))
end Go.Ab
namespace Go.Ab
open Go.Proofs
/-! codesearch/diff.same -/
theorem same_e (G : Req → R) (p0_0_0 : Int) (p0_0_1 : Int) (p0_0_2 : List (List L)) (p0_1_0 : Int) (p0_1_1 : Int) (p0_1_2 : List (List L)) : runB (cfg [k_equal]) G (.enter 43 [(.agg [(.int IntKind.i64 (p0_0_0)), (.int IntKind.i64 (p0_0_1)), (.lst 9 p0_0_2), (.int IntKind.i64 (p0_1_0)), (.int IntKind.i64 (p0_1_1)), (.lst 9 p0_1_2)])] []) =
  (cond (p0_0_0 == p0_1_0)
   (cond (p0_0_1 == p0_1_1)
    (cond (isSs p0_0_2 && (isSs p0_1_2 && gLL (dSs p0_0_2) (dSs p0_1_2)))
     (some [(.bool (decide (dSs p0_0_2 = dSs p0_1_2)))])
     none)
    (some [(.bool (false))]))
   (some [(.bool (false))])) := by kernel_rfl

/-! codesearch/codesearchref23.sameHunk -/
theorem shunk_e (G : Req → R) (a0_0 : Int) (a0_1 : Int) (a0_2 : List (List L)) (b1_0 : Int) (b1_1 : Int) (b1_2 : List (List L)) : runB (cfg [k_stext]) G (.enter 41 [(.agg [(.int IntKind.i64 (a0_0)), (.int IntKind.i64 (a0_1)), (.lst 9 a0_2)]), (.agg [(.int IntKind.i64 (b1_0)), (.int IntKind.i64 (b1_1)), (.lst 9 b1_2)])] []) =
  (cond (a0_0 == b1_0)
   (cond (a0_1 == b1_1)
    (cond (isSs a0_2 && (isSs b1_2 && gLL (dSs a0_2) (dSs b1_2)))
     (some [(.bool (decide (dSs a0_2 = dSs b1_2)))])
     none)
    (some [(.bool (false))]))
   (some [(.bool (false))])) := by kernel_rfl

/-! codesearch/codesearchref23.Same -/
noncomputable def rSame_q4 (a0 : List (List L)) (b1 : List (List L)) (i5 : Int) : Req := .point 15 [] (todoAt Tryd.prog 15 4) ⟨[(.lf (.lst 46 a0)), (.lf (.lst 46 b1)), an, an, an, (.lf (.int IntKind.i64 i5)), an, an, an, an, an, an, an, an, an, an, an, an, an, an, an, an, an, an, an, an, an], []⟩
theorem rSame_e (G : Req → R) (a0 : List (List L)) (b1 : List (List L)) : runB (cfg [k_shunk]) G (.enter 15 [(.lf (.lst 46 a0)), (.lf (.lst 46 b1))] []) =
  (cond ((↑(List.length a0) : Int) != (↑(List.length b1) : Int))
   (some [(.bool (false))])
   (G (rSame_q4 a0 b1 0))) := by kernel_rfl
theorem rSame_p4 (G : Req → R) (a0 : List (List L)) (b1 : List (List L)) (i5 : Int) : runB (cfg [k_shunk]) G (rSame_q4 a0 b1 i5) =
  (cond (ltI i5 (↑(List.length a0) : Int))
   (cond (leI 0 i5 && ltI i5 (↑(List.length a0) : Int))
    (cond (leI 0 i5 && ltI i5 (↑(List.length b1) : Int))
     (cond (isSs (cX 2 (atL a0 i5)) && (isSs (cX 2 (atL b1 i5)) && gLL (dSs (cX 2 (atL a0 i5))) (dSs (cX 2 (atL b1 i5)))))
      (cond (!(cI 0 (atL a0 i5) == cI 0 (atL b1 i5) && (cI 1 (atL a0 i5) == cI 1 (atL b1 i5) && decide (dSs (cX 2 (atL a0 i5)) = dSs (cX 2 (atL b1 i5))))))
       (some [(.bool (false))])
       (G (rSame_q4 a0 b1 (wrapI IntKind.i64 (i5 + 1)))))
      none)
     none)
    none)
   (some [(.bool (true))])) := by kernel_rfl

/-! codesearch/codesearchlaw23.hunks -/
noncomputable def hunks_q4 (l0 : List (List L)) (i3 : Int) : Req := .point 21 [] (todoAt Tryd.prog 21 4) ⟨[(.lf (.lst 46 l0)), an, an, (.lf (.int IntKind.i64 i3)), an, an, an, an, an, an, an, an, an, an, an, an, an, an, an, an], []⟩
theorem hunks_e (G : Req → R) (l0 : List (List L)) : runB (cfg [k_few]) G (.enter 21 [(.lf (.lst 46 l0))] []) =
  (cond (ltI 40 (↑(List.length l0) : Int))
   (some [(.bool (false))])
   (G (hunks_q4 l0 0))) := by kernel_rfl
theorem hunks_p4 (G : Req → R) (l0 : List (List L)) (i3 : Int) : runB (cfg [k_few]) G (hunks_q4 l0 i3) =
  (cond (ltI i3 (↑(List.length l0) : Int))
   (cond (leI 0 i3 && ltI i3 (↑(List.length l0) : Int))
    (cond (isSs (cX 2 (atL l0 i3)) && sm (List.length (dSs (cX 2 (atL l0 i3)))))
     (cond (!fewF (dSs (cX 2 (atL l0 i3))))
      (some [(.bool (false))])
      (G (hunks_q4 l0 (wrapI IntKind.i64 (i3 + 1)))))
     none)
    none)
   (some [(.bool (true))])) := by kernel_rfl

/-! codesearch/diff.Apply -/
noncomputable def apply_q7 (a0 : List (List L)) (at8 : Int) (x18 : List (List L)) (x19 : Int) (x20 : Int) (h0 : List (List L)) : Req := .point 28 [] (todoAt Tryd.prog 28 7) ⟨[(.lf (.lst 9 a0)), an, an, an, an, an, an, (.lf (.row 0)), (.lf (.int IntKind.i64 at8)), an, an, an, an, an, an, an, an, an, (.lf (.lst 46 x18)), (.lf (.int IntKind.i64 x19)), (.lf (.int IntKind.i64 x20)), an, an, an, an, an, an, an, an, an, an, an, an, an, an, an, an, an, an, an, an, an, an], [(.row 9 h0 true)]⟩
theorem apply_e (G : Req → R) (a0 : List (List L)) (l1 : List (List L)) : runB (cfg [k_right]) G (.enter 28 [(.lf (.lst 9 a0)), (.lf (.lst 46 l1))] []) =
  (cond (isHs l1 && sm (List.length (dHs l1)))
   (cond (rightF (dHs l1) (↑(List.length a0) : Int) != 0)
    (some [(.lst 9 []), (.int IntKind.i64 (rightF (dHs l1) (↑(List.length a0) : Int)))])
    (G (apply_q7 a0 0 l1 ((↑(List.length l1) : Int)) 0 [])))
   none) := by kernel_rfl
theorem apply_p7 (G : Req → R) (a0 : List (List L)) (at8 : Int) (x18 : List (List L)) (x19 : Int) (x20 : Int) (h0 : List (List L)) : runB (cfg [k_right]) G (apply_q7 a0 at8 x18 x19 x20 h0) =
  (cond (ltI x20 x19)
   (cond (leI 0 x20 && ltI x20 (↑(List.length x18) : Int))
    (cond (leI 0 (cI 0 (atL x18 x20)) && leI (cI 0 (atL x18 x20)) (↑(List.length a0) : Int) && (leI 0 at8 && leI at8 (↑(Int.toNat (cI 0 (atL x18 x20))) : Int)))
     (cond (roomN (List.length h0 + List.length (List.drop (Int.toNat at8) (List.take (Int.toNat (cI 0 (atL x18 x20))) a0))) 16)
      (cond (roomN (List.length (h0 ++ List.drop (Int.toNat at8) (List.take (Int.toNat (cI 0 (atL x18 x20))) a0)) + List.length (cX 2 (atL x18 x20))) 16)
       (G (apply_q7 a0 (cI 1 (atL x18 x20)) x18 x19 (wrapI IntKind.i64 (x20 + 1)) (h0 ++ List.drop (Int.toNat at8) (List.take (Int.toNat (cI 0 (atL x18 x20))) a0) ++ cX 2 (atL x18 x20))))
       none)
      none)
     none)
    none)
   (cond (leI 0 at8 && leI at8 (↑(List.length a0) : Int))
    (cond (roomN (List.length h0 + List.length (List.drop (Int.toNat at8) (List.take (List.length a0) a0))) 16)
     (some [(.lst 9 (h0 ++ List.drop (Int.toNat at8) (List.take (List.length a0) a0))), (.int IntKind.i64 (0))])
     none)
    none)) := by kernel_rfl

/-! codesearch/codesearchref23.Apply -/
noncomputable def rApply_q7 (a0 : List (List L)) (l1 : List (List L)) (at8 : Int) (i9 : Int) (h0 : List (List L)) : Req := .point 31 [] (todoAt Tryd.prog 31 7) ⟨[(.lf (.lst 9 a0)), (.lf (.lst 46 l1)), an, an, an, an, an, (.lf (.row 0)), (.lf (.int IntKind.i64 at8)), (.lf (.int IntKind.i64 i9)), an, an, an, an, an, an, an, an, an, an, an, an, an, an, an, an, an, an, an, an, an, an, an, an, an, an, an, an, an, an, an, an, an, an, an, an, an, an, an, an, an], [(.row 9 h0 true)]⟩
theorem rApply_e (G : Req → R) (a0 : List (List L)) (l1 : List (List L)) : runB (cfg [k_rright]) G (.enter 31 [(.lf (.lst 9 a0)), (.lf (.lst 46 l1))] []) =
  (cond (isHs l1 && sm (List.length (dHs l1)))
   (cond (rightF (dHs l1) (↑(List.length a0) : Int) != 0)
    (some [(.lst 9 []), (.int IntKind.i64 (rightF (dHs l1) (↑(List.length a0) : Int)))])
    (G (rApply_q7 a0 l1 0 0 [])))
   none) := by kernel_rfl
theorem rApply_p7 (G : Req → R) (a0 : List (List L)) (l1 : List (List L)) (at8 : Int) (i9 : Int) (h0 : List (List L)) : runB (cfg [k_rright]) G (rApply_q7 a0 l1 at8 i9 h0) =
  (cond (ltI i9 (↑(List.length l1) : Int))
   (cond (leI 0 i9 && ltI i9 (↑(List.length l1) : Int))
    (cond (leI 0 (cI 0 (atL l1 i9)) && leI (cI 0 (atL l1 i9)) (↑(List.length a0) : Int) && (leI 0 at8 && leI at8 (↑(Int.toNat (cI 0 (atL l1 i9))) : Int)))
     (cond (roomN (List.length h0 + List.length (List.drop (Int.toNat at8) (List.take (Int.toNat (cI 0 (atL l1 i9))) a0))) 16)
      (cond (leI 0 i9 && ltI i9 (↑(List.length l1) : Int))
       (cond (roomN (List.length (h0 ++ List.drop (Int.toNat at8) (List.take (Int.toNat (cI 0 (atL l1 i9))) a0)) + List.length (cX 2 (atL l1 i9))) 16)
        (cond (leI 0 i9 && ltI i9 (↑(List.length l1) : Int))
         (G (rApply_q7 a0 l1 (cI 1 (atL l1 i9)) (wrapI IntKind.i64 (i9 + 1)) (h0 ++ List.drop (Int.toNat at8) (List.take (Int.toNat (cI 0 (atL l1 i9))) a0) ++ cX 2 (atL l1 i9))))
         none)
        none)
       none)
      none)
     none)
    none)
   (cond (leI 0 at8 && leI at8 (↑(List.length a0) : Int))
    (cond (roomN (List.length h0 + List.length (List.drop (Int.toNat at8) (List.take (List.length a0) a0))) 16)
     (some [(.lst 9 (h0 ++ List.drop (Int.toNat at8) (List.take (List.length a0) a0))), (.int IntKind.i64 (0))])
     none)
    none)) := by kernel_rfl

/-! codesearch/diff.Invert -/
noncomputable def inv_q7 (a0 : List (List L)) (move8 : Int) (x19 : List (List L)) (x20 : Int) (x21 : Int) (h0 : List (List L)) : Req := .point 32 [] (todoAt Tryd.prog 32 7) ⟨[(.lf (.lst 9 a0)), an, an, an, an, an, an, (.lf (.row 0)), (.lf (.int IntKind.i64 move8)), an, an, an, an, an, an, an, an, an, an, (.lf (.lst 46 x19)), (.lf (.int IntKind.i64 x20)), (.lf (.int IntKind.i64 x21)), an, an, an, an, an, an, an, an, an, an, an, an, an, an, an, an, an, an, an, an, an, an, an, an, an, an, an, an, an, an, an, an, an, an, an, an, an], [(.row 46 h0 true)]⟩
theorem inv_e (G : Req → R) (a0 : List (List L)) (l1 : List (List L)) : runB (cfg [k_right, k_clS]) G (.enter 32 [(.lf (.lst 9 a0)), (.lf (.lst 46 l1))] []) =
  (cond (isHs l1 && sm (List.length (dHs l1)))
   (cond (rightF (dHs l1) (↑(List.length a0) : Int) != 0)
    (some [(.lst 46 []), (.int IntKind.i64 (rightF (dHs l1) (↑(List.length a0) : Int)))])
    (G (inv_q7 a0 0 l1 ((↑(List.length l1) : Int)) 0 [])))
   none) := by kernel_rfl
theorem inv_p7 (G : Req → R) (a0 : List (List L)) (move8 : Int) (x19 : List (List L)) (x20 : Int) (x21 : Int) (h0 : List (List L)) : runB (cfg [k_right, k_clS]) G (inv_q7 a0 move8 x19 x20 x21 h0) =
  (cond (ltI x21 x20)
   (cond (leI 0 x21 && ltI x21 (↑(List.length x19) : Int))
    (both
     (cond (leI 0 (cI 1 (atL x19 x21)) && leI (cI 1 (atL x19 x21)) (↑(List.length a0) : Int) && (leI 0 (cI 0 (atL x19 x21)) && leI (cI 0 (atL x19 x21)) (↑(Int.toNat (cI 1 (atL x19 x21))) : Int)))
      (cond (isSs (List.drop (Int.toNat (cI 0 (atL x19 x21))) (List.take (Int.toNat (cI 1 (atL x19 x21))) a0)) && sm (List.length (dSs (List.drop (Int.toNat (cI 0 (atL x19 x21))) (List.take (Int.toNat (cI 1 (atL x19 x21))) a0)))))
       (cond (roomN (List.length h0 + 1) 40)
        (G (inv_q7 a0 (wrapI IntKind.i64 (move8 + wrapI IntKind.i64 ((↑(List.length (cX 2 (atL x19 x21))) : Int) - wrapI IntKind.i64 (cI 1 (atL x19 x21) - cI 0 (atL x19 x21))))) x19 x20 (wrapI IntKind.i64 (x21 + 1)) (h0 ++ [[L.int IntKind.i64 (wrapI IntKind.i64 (cI 0 (atL x19 x21) + move8)), L.int IntKind.i64 (wrapI IntKind.i64 (wrapI IntKind.i64 (cI 0 (atL x19 x21) + move8) + (↑(List.length (cX 2 (atL x19 x21))) : Int))), L.lst 9 (eSs (dSs (List.drop (Int.toNat (cI 0 (atL x19 x21))) (List.take (Int.toNat (cI 1 (atL x19 x21))) a0))))]])))
        none)
       none)
      none)
     (dupN 1
      (both
       (cond (leI 0 (cI 1 (atL x19 x21)) && leI (cI 1 (atL x19 x21)) (↑(List.length a0) : Int) && (leI 0 (cI 0 (atL x19 x21)) && leI (cI 0 (atL x19 x21)) (↑(Int.toNat (cI 1 (atL x19 x21))) : Int)))
        (cond (isSs (List.drop (Int.toNat (cI 0 (atL x19 x21))) (List.take (Int.toNat (cI 1 (atL x19 x21))) a0)) && sm (List.length (dSs (List.drop (Int.toNat (cI 0 (atL x19 x21))) (List.take (Int.toNat (cI 1 (atL x19 x21))) a0)))))
         (cond (roomN (List.length h0 + 1) 40)
          (G (inv_q7 a0 (wrapI IntKind.i64 (move8 + wrapI IntKind.i64 ((↑(List.length (cX 2 (atL x19 x21))) : Int) - wrapI IntKind.i64 (cI 1 (atL x19 x21) - cI 0 (atL x19 x21))))) x19 x20 (wrapI IntKind.i64 (x21 + 1)) (h0 ++ [[L.int IntKind.i64 (wrapI IntKind.i64 (cI 0 (atL x19 x21) + move8)), L.int IntKind.i64 (wrapI IntKind.i64 (wrapI IntKind.i64 (cI 0 (atL x19 x21) + move8) + (↑(List.length (cX 2 (atL x19 x21))) : Int))), L.lst 9 (eSs (dSs (List.drop (Int.toNat (cI 0 (atL x19 x21))) (List.take (Int.toNat (cI 1 (atL x19 x21))) a0))))]])))
          none)
         none)
        none)
       (cond (leI 0 (cI 1 (atL x19 x21)) && leI (cI 1 (atL x19 x21)) (↑(List.length a0) : Int) && (leI 0 (cI 0 (atL x19 x21)) && leI (cI 0 (atL x19 x21)) (↑(Int.toNat (cI 1 (atL x19 x21))) : Int)))
        (dupN 1
         (cond (isSs (List.drop (Int.toNat (cI 0 (atL x19 x21))) (List.take (Int.toNat (cI 1 (atL x19 x21))) a0)) && sm (List.length (dSs (List.drop (Int.toNat (cI 0 (atL x19 x21))) (List.take (Int.toNat (cI 1 (atL x19 x21))) a0)))))
          (cond (roomN (List.length h0 + 1) 40)
           (G (inv_q7 a0 (wrapI IntKind.i64 (move8 + wrapI IntKind.i64 ((↑(List.length (cX 2 (atL x19 x21))) : Int) - wrapI IntKind.i64 (cI 1 (atL x19 x21) - cI 0 (atL x19 x21))))) x19 x20 (wrapI IntKind.i64 (x21 + 1)) (h0 ++ [[L.int IntKind.i64 (wrapI IntKind.i64 (cI 0 (atL x19 x21) + move8)), L.int IntKind.i64 (wrapI IntKind.i64 (wrapI IntKind.i64 (cI 0 (atL x19 x21) + move8) + (↑(List.length (cX 2 (atL x19 x21))) : Int))), L.lst 9 (eSs (dSs (List.drop (Int.toNat (cI 0 (atL x19 x21))) (List.take (Int.toNat (cI 1 (atL x19 x21))) a0))))]])))
           none)
          none))
        none))))
    none)
   (some [(.lst 46 h0), (.int IntKind.i64 (0))])) := by kernel_rfl

/-! codesearch/codesearchref23.Invert -/
noncomputable def rInv_q7 (a0 : List (List L)) (l1 : List (List L)) (shift8 : Int) (i9 : Int) (h0 : List (List L)) : Req := .point 33 [] (todoAt Tryd.prog 33 7) ⟨[(.lf (.lst 9 a0)), (.lf (.lst 46 l1)), an, an, an, an, an, (.lf (.row 0)), (.lf (.int IntKind.i64 shift8)), (.lf (.int IntKind.i64 i9)), an, an, an, an, an, an, an, an, an, an, an, an, an, an, an, an, an, an, an, an, an, an, an, an, an, an, an, an, an, an, an, an, an, an, an, an, an, an, an, an, an, an, an, an, an, an, an, an, an, an, an, an, an, an, an, an, an, an, an, an, an, an, an, an, an, an, an, an, an, an], [(.row 46 h0 true)]⟩
theorem rInv_e (G : Req → R) (a0 : List (List L)) (l1 : List (List L)) : runB (cfg [k_rright]) G (.enter 33 [(.lf (.lst 9 a0)), (.lf (.lst 46 l1))] []) =
  (cond (isHs l1 && sm (List.length (dHs l1)))
   (cond (rightF (dHs l1) (↑(List.length a0) : Int) != 0)
    (some [(.lst 46 []), (.int IntKind.i64 (rightF (dHs l1) (↑(List.length a0) : Int)))])
    (G (rInv_q7 a0 l1 0 0 [])))
   none) := by kernel_rfl
theorem rInv_p7 (G : Req → R) (a0 : List (List L)) (l1 : List (List L)) (shift8 : Int) (i9 : Int) (h0 : List (List L)) : runB (cfg [k_rright]) G (rInv_q7 a0 l1 shift8 i9 h0) =
  (cond (ltI i9 (↑(List.length l1) : Int))
   (cond (leI 0 i9 && ltI i9 (↑(List.length l1) : Int))
    (cond (leI 0 i9 && ltI i9 (↑(List.length l1) : Int))
     (cond (leI 0 i9 && ltI i9 (↑(List.length l1) : Int))
      (cond (leI 0 i9 && ltI i9 (↑(List.length l1) : Int))
       (cond (leI 0 (cI 1 (atL l1 i9)) && leI (cI 1 (atL l1 i9)) (↑(List.length a0) : Int) && (leI 0 (cI 0 (atL l1 i9)) && leI (cI 0 (atL l1 i9)) (↑(Int.toNat (cI 1 (atL l1 i9))) : Int)))
        (cond (roomN (0 + List.length (List.drop (Int.toNat (cI 0 (atL l1 i9))) (List.take (Int.toNat (cI 1 (atL l1 i9))) a0))) 16)
         (cond (roomN (List.length h0 + 1) 40)
          (cond (leI 0 i9 && ltI i9 (↑(List.length l1) : Int))
           (cond (leI 0 i9 && ltI i9 (↑(List.length l1) : Int))
            (cond (leI 0 i9 && ltI i9 (↑(List.length l1) : Int))
             (G (rInv_q7 a0 l1 (wrapI IntKind.i64 (wrapI IntKind.i64 (shift8 + (↑(List.length (cX 2 (atL l1 i9))) : Int)) - wrapI IntKind.i64 (cI 1 (atL l1 i9) - cI 0 (atL l1 i9)))) (wrapI IntKind.i64 (i9 + 1)) (h0 ++ [[L.int IntKind.i64 (wrapI IntKind.i64 (cI 0 (atL l1 i9) + shift8)), L.int IntKind.i64 (wrapI IntKind.i64 (wrapI IntKind.i64 (cI 0 (atL l1 i9) + shift8) + (↑(List.length (cX 2 (atL l1 i9))) : Int))), L.lst 9 ([] ++ List.drop (Int.toNat (cI 0 (atL l1 i9))) (List.take (Int.toNat (cI 1 (atL l1 i9))) a0))]])))
             none)
            none)
           none)
          none)
         none)
        none)
       none)
      none)
     none)
    none)
   (some [(.lst 46 h0), (.int IntKind.i64 (0))])) := by kernel_rfl

/-! codesearch/codesearchlaw23.one -/
theorem one_e (G : Req → R) (at0 : Int) (end1 : Int) (lines2 : List (List L)) : runB (cfg []) G (.enter 34 [(.lf (.int IntKind.i64 (at0))), (.lf (.int IntKind.i64 (end1))), (.lf (.lst 9 lines2))] []) =
  (some [(.lst 46 [[(.int IntKind.i64 (at0)), (.int IntKind.i64 (end1)), (.lst 9 lines2)]])]) := by kernel_rfl

end Go.Ab
namespace Go.Ab
open Go.Proofs

theorem same_holds : Holds k_same := con_run (xs := [k_equal]) (hold1 equal_holds hold0) fun aa hp r h => by
  split at h
  case h_2 => cases h
  rename_i a b xs c d ys
  obtain ⟨g, rfl⟩ := xo h
  refine Runs.by (same_e · _ _ _ _ _ _) ?_
  rw [g]
  simp only [cond_true]
  cases a == c
  · exact .ret
  · cases b == d
    · exact .ret
    · exact .ret
theorem shunk_holds : Holds k_shunk := con_run (xs := [k_stext]) (hold1 stext_holds hold0) fun aa hp r h => by
  split at h
  case h_2 => cases h
  rename_i a b xs c d ys
  obtain ⟨g, rfl⟩ := xo h
  refine Runs.by (shunk_e · _ _ _ _ _ _) ?_
  rw [g]
  simp only [cond_true]
  cases a == c
  · exact .ret
  · cases b == d
    · exact .ret
    · exact .ret
theorem gHk_at {l : List Hk} (g : gHk l = true) {i : Nat} (hi : i < l.length) : (l.getD i default).ls.length ≤ 1000000 := by
  unfold gHk at g
  rw [Bool.and_eq_true] at g
  have hm : l.getD i default ∈ l := by simp [List.getD_eq_getElem?_getD, hi]
  exact sm_of (List.all_eq_true.1 g.2 _ hm)
theorem gHk_len {l : List Hk} (g : gHk l = true) : l.length ≤ 1000000 := by
  unfold gHk at g
  rw [Bool.and_eq_true] at g
  exact sm_of g.1
theorem hk_eq (x y : Hk) : (x.fr == y.fr && (x.to == y.to && decide (x.ls = y.ls))) = decide (x = y) := by
  obtain ⟨a, b, c⟩ := x
  obtain ⟨d, e, f⟩ := y
  rw [Bool.eq_iff_iff]
  simp
theorem eqH_step {a b : List Hk} {i : Nat} (h : a.length = b.length) (hi : i < a.length) : decide (a.drop i = b.drop i) = (decide (a.getD i default = b.getD i default) && decide (a.drop (i + 1) = b.drop (i + 1))) := by
  rw [drop_at default hi, drop_at (l := b) default (by omega), Bool.eq_iff_iff, Bool.and_eq_true, decide_eq_true_eq, decide_eq_true_eq, decide_eq_true_eq, List.cons.injEq]
theorem rSame_loop (a b : List Hk) (ga : gHk a = true) (gb : gHk b = true) (hl : a.length = b.length) : ∀ m i : Nat, i + m = a.length → Runs (cfg [k_shunk]) (rSame_q4 (eHs a) (eHs b) (i : Nat)) [.bool (decide (a.drop i = b.drop i))]
  | 0, i, h => by
    refine Runs.by (rSame_p4 · _ _ _) ?_
    simp (disch := omega) only [eHs_len, ev_lt_f, cond_false]
    rw [drop_end (by omega), drop_end (by omega), decide_eq_true rfl]
    exact .ret
  | m + 1, i, h => by
    have ha := gHk_len ga
    have ih := rSame_loop a b ga gb hl m (i + 1) (by omega)
    have h1 := gHk_at ga (show i < a.length by omega)
    have h2 := gHk_at gb (show i < b.length by omega)
    have hg : gLL (a.getD i default).ls (b.getD i default).ls = true := by unfold gLL; rw [sm_t h1, sm_t h2]; rfl
    refine Runs.by (rSame_p4 · _ _ _) ?_
    simp (disch := omega) only [eHs_len, ev_lt_t, ev_le_t, Bool.and_self, cond_true, eHs_at, cI0_e, cI1_e, cX2_e, isSs_e, dSs_e, hg, hk_eq, w64]
    rw [eqH_step hl (by omega)]
    by_cases e : a.getD i default = b.getD i default
    · simp only [decide_eq_true e, Bool.not_true, cond_false, Bool.true_and]
      exact .go ih
    · simp only [decide_eq_false e, Bool.not_false, cond_true, Bool.false_and]
      exact .ret
theorem Same_holds : Holds k_Same := conHH_of (ks := [k_shunk]) (hold1 shunk_holds hold0) fun a b g => by
  rw [Bool.and_eq_true] at g
  refine Runs.by (rSame_e · _ _) ?_
  rw [eHs_len, eHs_len]
  by_cases hl : a.length = b.length
  · rw [ev_ne_f (by omega)]
    exact .go (rSame_loop a b g.1 g.2 hl a.length 0 (by omega))
  · rw [ev_ne_t (by omega), decide_eq_false (fun e => hl (congrArg _ e))]
    exact .ret
theorem hunks_loop (l : List Hk) (g : gHk l = true) : ∀ m i : Nat, i + m = l.length → Runs (cfg [k_few]) (hunks_q4 (eHs l) (i : Nat)) [.bool ((l.drop i).all fun h => fewF h.ls)]
  | 0, i, h => by
    refine Runs.by (hunks_p4 · _ _) ?_
    simp (disch := omega) only [eHs_len, ev_lt_f, cond_false]
    rw [drop_end (by omega)]
    exact .ret
  | m + 1, i, h => by
    have ha := gHk_len g
    have ih := hunks_loop l g m (i + 1) (by omega)
    have h1 := sm_t (gHk_at g (show i < l.length by omega))
    refine Runs.by (hunks_p4 · _ _) ?_
    simp (disch := omega) only [eHs_len, ev_lt_t, ev_le_t, Bool.and_self, cond_true, eHs_at, cX2_e, isSs_e, dSs_e, h1, w64]
    rw [drop_at (l := l) default (by omega), List.all_cons]
    cases fewF (l.getD i default).ls
    · exact .ret
    · exact .go ih
theorem hunks_holds : Holds k_hunks := conH_of (ks := [k_few]) (hold1 few_holds hold0) fun l g => by
  have g' : gHk l = true := g
  refine Runs.by (hunks_e · _) ?_
  rw [eHs_len]
  refine RunsF.cond (fun hc => ?_) (fun hc => ?_)
  · have hc := ltI_t hc
    have e : Nat.ble l.length 40 = false := by rw [← Bool.not_eq_true, Nat.ble_eq]; omega
    unfold hunksF
    rw [e]
    exact .ret
  · have hc := ltI_f hc
    have e : Nat.ble l.length 40 = true := by rw [Nat.ble_eq]; omega
    unfold hunksF
    rw [e, Bool.true_and]
    exact .go (hunks_loop l g' l.length 0 (by omega))
end Go.Ab
namespace Go.Ab
open Go.Proofs

theorem atD {α : Type} {l : List α} {i : Nat} (d : α) (h : i < l.length) : l.getD i d ∈ l := by
  rw [List.getD_eq_getElem?_getD, List.getElem?_eq_getElem h]
  exact List.getElem_mem h
theorem one_holds : Holds k_one := con_run (xs := []) hold0 fun aa hp r h0 => by
  split at h0
  · obtain ⟨g0, rfl⟩ := xo h0
    refine Runs.by (one_e · _ _ _) ?_
    exact .ret
  · cases h0
abbrev nlf (s : W) : Bool := s.all fun c => !(c.toNat == 10)
theorem plain_by (l : List Hk) (i k : Nat) (hk : k ≤ 1000000) (s : W) (hs : s.length ≤ 1000000) (r : Bool) (h : Runs (cfg []) (plain_q5 (eHs l) (i : Nat) ((k + 1 : Nat) : Int)) [.bool r]) :
    ∀ m j : Nat, j + m = s.length → Runs (cfg []) (plain_q9 (eHs l) (i : Nat) (k : Nat) (mk s) (j : Nat)) [.bool (nlf (s.drop j) && r)]
  | 0, j, e => by
    refine Runs.by (plain_p9 · _ _ _ _ _) ?_
    simp (disch := omega) only [size_mk, ev_lt_f, cond_false, w64]
    rw [drop_end (by omega)]
    exact .go h
  | m + 1, j, e => by
    have ih := plain_by l i k hk s hs r h m (j + 1) (by omega)
    refine Runs.by (plain_p9 · _ _ _ _ _) ?_
    simp (disch := omega) only [size_mk, ev_lt_t, ev_le_t, Bool.and_self, cond_true, byI_mk, w64]
    rw [drop_at (l := s) 0 (by omega)]
    unfold nlf
    rw [List.all_cons]
    have e : (((s.getD j 0).toNat : Int) == 10) = ((s.getD j 0).toNat == 10) := by
      rw [Bool.eq_iff_iff, beq_iff_eq, beq_iff_eq]; omega
    rw [e]
    refine RunsF.cond (fun hd => ?_) (fun hd => ?_)
    · rw [hd]; exact .ret
    · rw [hd, Bool.not_false, Bool.true_and]; exact .go ih
theorem plain_ls (l : List Hk) (hl : l.length ≤ 1000000) (i : Nat) (hi : i < l.length) (hn : (l.getD i default).ls.length ≤ 1000000) (hs : ∀ s ∈ (l.getD i default).ls, s.length ≤ 1000000) (r : Bool) (h : Runs (cfg []) (plain_q2 (eHs l) ((i + 1 : Nat) : Int)) [.bool r]) :
    ∀ m k : Nat, k + m = (l.getD i default).ls.length → Runs (cfg []) (plain_q5 (eHs l) (i : Nat) (k : Nat)) [.bool ((((l.getD i default).ls).drop k).all nlf && r)]
  | 0, k, e => by
    refine Runs.by (plain_p5 · _ _ _) ?_
    simp (disch := omega) only [eHs_len, eHs_at, cX2_e, eSs_len, ev_lt_t, ev_le_t, ev_lt_f, Bool.and_self, cond_true, cond_false, w64]
    rw [drop_end (by omega)]
    exact .go h
  | m + 1, k, e => by
    have ih := plain_ls l hl i hi hn hs r h m (k + 1) (by omega)
    refine Runs.by (plain_p5 · _ _ _) ?_
    simp (disch := omega) only [eHs_len, eHs_at, cX2_e, eSs_len, ev_lt_t, ev_le_t, Bool.and_self, cond_true, eSs_at, cT_e, w64]
    rw [drop_at (l := (l.getD i default).ls) [] (by omega), List.all_cons, Bool.and_assoc]
    have hw : ((l.getD i default).ls.getD k []).length ≤ 1000000 := hs _ (atD [] (by omega))
    have := plain_by l i k (by omega) _ hw _ ih _ 0 (Nat.zero_add _)
    rw [List.drop_zero] at this
    exact .go this
theorem plain_loop (l : List Hk) (hl : l.length ≤ 1000000) (hn : ∀ h ∈ l, h.ls.length ≤ 1000000 ∧ ∀ s ∈ h.ls, s.length ≤ 1000000) :
    ∀ m i : Nat, i + m = l.length → Runs (cfg []) (plain_q2 (eHs l) (i : Nat)) [.bool (plainF (l.drop i))]
  | 0, i, e => by
    refine Runs.by (plain_p2 · _ _) ?_
    simp (disch := omega) only [eHs_len, ev_lt_f, cond_false]
    rw [drop_end (by omega)]
    exact .ret
  | m + 1, i, e => by
    have ih := plain_loop l hl hn m (i + 1) (by omega)
    have hi : i < l.length := by omega
    refine Runs.by (plain_p2 · _ _) ?_
    simp (disch := omega) only [eHs_len, ev_lt_t, cond_true]
    rw [drop_at (l := l) default hi]
    unfold plainF
    rw [List.all_cons]
    have hm := hn (l.getD i default) (atD default hi)
    have := plain_ls l hl i hi hm.1 hm.2 _ ih _ 0 (Nat.zero_add _)
    rw [List.drop_zero] at this
    exact .go this
theorem plain_holds : Holds k_plain := conH_of (ks := []) hold0 fun l g => by
  rw [Bool.and_eq_true, List.all_eq_true] at g
  refine Runs.by (plain_e · _) ?_
  refine .go (plain_loop l (sm_of g.1) (fun h hh => ?_) l.length 0 (by omega))
  have := g.2 h hh
  rw [Bool.and_eq_true, List.all_eq_true] at this
  exact ⟨sm_of this.1, fun s hs => sm_of (this.2 s hs)⟩
end Go.Ab
namespace Go.Ab
open Go.Proofs
/-! codesearch/codesearchlaw23.alive -/
theorem alive_e (G : Req → R) : runB (cfg [k_one, k_Lines, k_Same, k_dist, k_dPrint, k_Merge, k_stext, k_dParse, k_right]) G (.enter 11 [] []) =
  (cond (isSs [[L.str (mk [97])], [L.str (mk [98])], [L.str (mk [99])]] && (isSs [[L.str (mk [97])], [L.str (mk [120])], [L.str (mk [99])]] && true))
   (cond (isHs (eHs (lnF (dSs [[L.str (mk [97])], [L.str (mk [98])], [L.str (mk [99])]]) (dSs [[L.str (mk [97])], [L.str (mk [120])], [L.str (mk [99])]]))) && (isHs [[L.int IntKind.i64 1, L.int IntKind.i64 2, L.lst 9 [[L.str (mk [120])]]]] && true))
    (cond (isHs (eHs (lnF (dSs [[L.str (mk [97])], [L.str (mk [98])], [L.str (mk [99])]]) (dSs [[L.str (mk [97])], [L.str (mk [120])], [L.str (mk [99])]]))) && true)
     (cond (isHs (eHs (lnF (dSs [[L.str (mk [97])], [L.str (mk [98])], [L.str (mk [99])]]) (dSs [[L.str (mk [97])], [L.str (mk [120])], [L.str (mk [99])]]))) && true)
      (cond (isSs [[L.str (mk [97])]] && (isSs [[L.str (mk [97])], [L.str (mk [97])]] && true))
       (cond (isHs (eHs (lnF (dSs [[L.str (mk [97])]]) (dSs [[L.str (mk [97])], [L.str (mk [97])]]))) && (isHs [[L.int IntKind.i64 1, L.int IntKind.i64 1, L.lst 9 [[L.str (mk [97])]]]] && true))
        (cond (isSs [[L.str (mk [120])], [L.str (mk [121])]] && (isSs [[L.str (mk [121])], [L.str (mk [120])]] && true))
         (cond (isHs (eHs (lnF (dSs [[L.str (mk [120])], [L.str (mk [121])]]) (dSs [[L.str (mk [121])], [L.str (mk [120])]]))) && (isHs [[L.int IntKind.i64 0, L.int IntKind.i64 0, L.lst 9 [[L.str (mk [121])]]], [L.int IntKind.i64 1, L.int IntKind.i64 2, L.lst 9 []]] && true))
          (cond (isSs [[L.str (mk [97])], [L.str (mk [98])], [L.str (mk [99])]] && (isSs [[L.str (mk [65])], [L.str (mk [98])], [L.str (mk [99])]] && (isSs [[L.str (mk [97])], [L.str (mk [98])], [L.str (mk [67])]] && true)))
           (cond (isSs [[L.str (mk [97])], [L.str (mk [98])]] && (isSs [[L.str (mk [65])], [L.str (mk [98])]] && (isSs [[L.str (mk [97])], [L.str (mk [66])]] && true)))
            (cond (isSs (eSs (mgL (dSs [[L.str (mk [97])], [L.str (mk [98])], [L.str (mk [99])]]) (lnF (dSs [[L.str (mk [97])], [L.str (mk [98])], [L.str (mk [99])]]) (dSs [[L.str (mk [65])], [L.str (mk [98])], [L.str (mk [99])]])) (lnF (dSs [[L.str (mk [97])], [L.str (mk [98])], [L.str (mk [99])]]) (dSs [[L.str (mk [97])], [L.str (mk [98])], [L.str (mk [67])]])))) && (isSs [[L.str (mk [65])], [L.str (mk [98])], [L.str (mk [67])]] && true))
             (cond (isHs (eHs (Option.getD (parR (bl (mk [64, 49, 32, 49, 32, 49, 10, 43, 120, 10]))) [])) && (isHs (eHs (lnF (dSs [[L.str (mk [97])], [L.str (mk [98])], [L.str (mk [99])]]) (dSs [[L.str (mk [97])], [L.str (mk [120])], [L.str (mk [99])]]))) && true))
              (cond (isHs [[L.int IntKind.i64 0, L.int IntKind.i64 1, L.lst 9 []], [L.int IntKind.i64 1, L.int IntKind.i64 2, L.lst 9 []]] && true)
               (some [(.bool (true))])
               none)
              none)
             none)
            none)
           none)
          none)
         none)
        none)
       none)
      none)
     none)
    none)
   none) := by kernel_rfl

/-! codesearch/codesearchlaw23.DiffLines -/
theorem lLines_e (G : Req → R) (a0 : List (List L)) (b1 : List (List L)) : runB (cfg [k_alive, k_fewA, k_Lines, k_rLines, k_Same, k_dist, k_rDist]) G (.enter 3 [(.lf (.lst 9 a0)), (.lf (.lst 9 b1))] []) =
  (cond (isSs a0 && true)
   (cond (!fewF (dSs a0))
    (some [(.bool (true))])
    (cond (isSs b1 && true)
     (cond (!fewF (dSs b1))
      (some [(.bool (true))])
      (cond (isSs a0 && (isSs b1 && gL5 (dSs a0) (dSs b1)))
       (cond (isSs a0 && (isSs b1 && gL5 (dSs a0) (dSs b1)))
        (cond (isHs (eHs (lnF (dSs a0) (dSs b1))) && (isHs (eHs (lnF (dSs a0) (dSs b1))) && (gHk (dHs (eHs (lnF (dSs a0) (dSs b1)))) && gHk (dHs (eHs (lnF (dSs a0) (dSs b1)))))))
         (cond (decide (dHs (eHs (lnF (dSs a0) (dSs b1))) = dHs (eHs (lnF (dSs a0) (dSs b1)))))
          (cond (isHs (eHs (lnF (dSs a0) (dSs b1))) && gDi (dHs (eHs (lnF (dSs a0) (dSs b1)))))
           (cond (isHs (eHs (lnF (dSs a0) (dSs b1))) && gDi (dHs (eHs (lnF (dSs a0) (dSs b1)))))
            (some [(.bool (distF (dHs (eHs (lnF (dSs a0) (dSs b1)))) == distF (dHs (eHs (lnF (dSs a0) (dSs b1))))))])
            none)
           none)
          (some [(.bool (false))]))
         none)
        none)
       none))
     none))
   none) := by kernel_rfl

/-! codesearch/codesearchlaw23.DiffApplies -/
theorem lApplies_e (G : Req → R) (a0 : List (List L)) (l1 : List (List L)) (n2 : Int) : runB (cfg [k_alive, k_fewA, k_hunksA, k_apply, k_rapply, k_inv, k_rinv, k_right, k_rright, k_stext, k_Same]) G (.enter 9 [(.lf (.lst 9 a0)), (.lf (.lst 46 l1)), (.lf (.int IntKind.i64 (n2)))] []) =
  (cond (isSs a0 && true)
   (cond (!fewF (dSs a0))
    (some [(.bool (true))])
    (cond (isHs l1 && true)
     (cond (!hunksF (dHs l1))
      (some [(.bool (true))])
      (cond (isSs a0 && (isHs l1 && gAp (dSs a0) (dHs l1)))
       (cond (isSs a0 && (isHs l1 && gAp (dSs a0) (dHs l1)))
        (cond (isSs a0 && (isHs l1 && gAp (dSs a0) (dHs l1)))
         (cond (isSs a0 && (isHs l1 && gAp (dSs a0) (dHs l1)))
          (cond (isHs l1 && sm (List.length (dHs l1)))
           (cond (isHs l1 && sm (List.length (dHs l1)))
            (cond (rightF (dHs l1) n2 == rightF (dHs l1) n2)
             (cond (rightF (dHs l1) (↑(List.length (dSs a0)) : Int) == rightF (dHs l1) (↑(List.length (dSs a0)) : Int))
              (cond (isSs (eSs (applyF (dSs a0) (dHs l1))) && (isSs (eSs (applyF (dSs a0) (dHs l1))) && gLL (dSs (eSs (applyF (dSs a0) (dHs l1)))) (dSs (eSs (applyF (dSs a0) (dHs l1))))))
               (cond (decide (dSs (eSs (applyF (dSs a0) (dHs l1))) = dSs (eSs (applyF (dSs a0) (dHs l1)))))
                (cond (rightF (dHs l1) (↑(List.length (dSs a0)) : Int) == rightF (dHs l1) (↑(List.length (dSs a0)) : Int))
                 (cond (isHs (eHs (invF (dSs a0) (dHs l1))) && (isHs (eHs (invF (dSs a0) (dHs l1))) && (gHk (dHs (eHs (invF (dSs a0) (dHs l1)))) && gHk (dHs (eHs (invF (dSs a0) (dHs l1)))))))
                  (some [(.bool (decide (dHs (eHs (invF (dSs a0) (dHs l1))) = dHs (eHs (invF (dSs a0) (dHs l1))))))])
                  none)
                 (some [(.bool (false))]))
                (some [(.bool (false))]))
               none)
              (some [(.bool (false))]))
             (some [(.bool (false))]))
            none)
           none)
          none)
         none)
        none)
       none))
     none))
   none) := by kernel_rfl

/-! codesearch/codesearchlaw23.DiffMerges -/
theorem lMerges_e (G : Req → R) (base0 : List (List L)) (a1 : List (List L)) (b2 : List (List L)) : runB (cfg [k_alive, k_fewA, k_Merge, k_rMerge, k_stext]) G (.enter 4 [(.lf (.lst 9 base0)), (.lf (.lst 9 a1)), (.lf (.lst 9 b2))] []) =
  (cond (isSs base0 && true)
   (cond (!fewF (dSs base0))
    (some [(.bool (true))])
    (cond (isSs a1 && true)
     (cond (!fewF (dSs a1))
      (some [(.bool (true))])
      (cond (isSs b2 && true)
       (cond (!fewF (dSs b2))
        (some [(.bool (true))])
        (cond (isSs base0 && (isSs a1 && (isSs b2 && gMg (dSs base0) (dSs a1) (dSs b2))))
         (cond (isSs base0 && (isSs a1 && (isSs b2 && gMg (dSs base0) (dSs a1) (dSs b2))))
          (cond (mgE (dSs base0) (lnF (dSs base0) (dSs a1)) (lnF (dSs base0) (dSs b2)) == rmE (dSs base0) (mrg (lnF (dSs base0) (dSs a1)) (lnF (dSs base0) (dSs b2))))
           (cond (isSs (eSs (mgL (dSs base0) (lnF (dSs base0) (dSs a1)) (lnF (dSs base0) (dSs b2)))) && (isSs (eSs (rmL (dSs base0) (mrg (lnF (dSs base0) (dSs a1)) (lnF (dSs base0) (dSs b2))))) && gLL (dSs (eSs (mgL (dSs base0) (lnF (dSs base0) (dSs a1)) (lnF (dSs base0) (dSs b2))))) (dSs (eSs (rmL (dSs base0) (mrg (lnF (dSs base0) (dSs a1)) (lnF (dSs base0) (dSs b2))))))))
            (some [(.bool (decide (dSs (eSs (mgL (dSs base0) (lnF (dSs base0) (dSs a1)) (lnF (dSs base0) (dSs b2)))) = dSs (eSs (rmL (dSs base0) (mrg (lnF (dSs base0) (dSs a1)) (lnF (dSs base0) (dSs b2))))))))])
            none)
           (some [(.bool (false))]))
          none)
         none))
       none))
     none))
   none) := by kernel_rfl

/-! codesearch/codesearchlaw23.DiffParses -/
theorem lParses_e (G : Req → R) (l0 : List (List L)) (s1 : ByteArray) : runB (cfg [k_alive, k_hunksA, k_rright, k_plain, k_dPrint, k_rPrint, k_dParse, k_rParse, k_Same]) G (.enter 5 [(.lf (.lst 46 l0)), (.lf (.str (s1)))] []) =
  (cond (isHs l0 && true)
   (cond (!hunksF (dHs l0))
    (some [(.bool (true))])
    (cond (ltI 1000 (↑(ByteArray.size s1) : Int))
     (some [(.bool (true))])
     (cond (isHs l0 && sm (List.length (dHs l0)))
      (cond (rightF (dHs l0) 2000 == 0)
       (cond (isHs l0 && (sm (List.length (dHs l0)) && List.all (dHs l0) fun h => sm (List.length (Hk.ls h)) && List.all (Hk.ls h) fun s => sm (List.length s)))
        (cond (plainF (dHs l0))
         (cond (isHs l0 && prOk (dHs l0))
          (cond (isHs l0 && prOk (dHs l0))
           (cond (!bl (mk (prF (dHs l0))) == bl (mk (prF (dHs l0))))
            (some [(.bool (false))])
            (cond (sm (List.length (bl s1)))
             (cond (Nat.ble (List.length (bl s1)) 2000)
              (cond ((bif Option.isSome (parR (bl s1)) then (0 : Int) else 3) == bif Option.isSome (rparR (bl s1)) then (0 : Int) else 3)
               (cond (isHs (eHs (Option.getD (parR (bl s1)) [])) && (isHs (eHs (Option.getD (rparR (bl s1)) [])) && (gHk (dHs (eHs (Option.getD (parR (bl s1)) []))) && gHk (dHs (eHs (Option.getD (rparR (bl s1)) []))))))
                (some [(.bool (decide (dHs (eHs (Option.getD (parR (bl s1)) [])) = dHs (eHs (Option.getD (rparR (bl s1)) [])))))])
                none)
               (some [(.bool (false))]))
              none)
             none))
           none)
          none)
         (cond (sm (List.length (bl s1)))
          (cond (Nat.ble (List.length (bl s1)) 2000)
           (cond ((bif Option.isSome (parR (bl s1)) then (0 : Int) else 3) == bif Option.isSome (rparR (bl s1)) then (0 : Int) else 3)
            (cond (isHs (eHs (Option.getD (parR (bl s1)) [])) && (isHs (eHs (Option.getD (rparR (bl s1)) [])) && (gHk (dHs (eHs (Option.getD (parR (bl s1)) []))) && gHk (dHs (eHs (Option.getD (rparR (bl s1)) []))))))
             (some [(.bool (decide (dHs (eHs (Option.getD (parR (bl s1)) [])) = dHs (eHs (Option.getD (rparR (bl s1)) [])))))])
             none)
            (some [(.bool (false))]))
           none)
          none))
        none)
       (cond (sm (List.length (bl s1)))
        (cond (Nat.ble (List.length (bl s1)) 2000)
         (cond ((bif Option.isSome (parR (bl s1)) then (0 : Int) else 3) == bif Option.isSome (rparR (bl s1)) then (0 : Int) else 3)
          (cond (isHs (eHs (Option.getD (parR (bl s1)) [])) && (isHs (eHs (Option.getD (rparR (bl s1)) [])) && (gHk (dHs (eHs (Option.getD (parR (bl s1)) []))) && gHk (dHs (eHs (Option.getD (rparR (bl s1)) []))))))
           (some [(.bool (decide (dHs (eHs (Option.getD (parR (bl s1)) [])) = dHs (eHs (Option.getD (rparR (bl s1)) [])))))])
           none)
          (some [(.bool (false))]))
         none)
        none))
      none)))
   none) := by kernel_rfl

/-! codesearch/codesearchlaw23.DiffBack -/
theorem lBack_e (G : Req → R) (a0 : List (List L)) (b1 : List (List L)) : runB (cfg [k_alive, k_fewA, k_Lines, k_apply, k_right, k_stext, k_inv, k_dist]) G (.enter 10 [(.lf (.lst 9 a0)), (.lf (.lst 9 b1))] []) =
  (cond (isSs a0 && true)
   (cond (!fewF (dSs a0))
    (some [(.bool (true))])
    (cond (isSs b1 && true)
     (cond (!fewF (dSs b1))
      (some [(.bool (true))])
      (cond (isSs a0 && (isSs b1 && gL5 (dSs a0) (dSs b1)))
       (cond (isSs a0 && (isHs (eHs (lnF (dSs a0) (dSs b1))) && gAp (dSs a0) (dHs (eHs (lnF (dSs a0) (dSs b1))))))
        (cond (isHs (eHs (lnF (dSs a0) (dSs b1))) && sm (List.length (dHs (eHs (lnF (dSs a0) (dSs b1))))))
         (cond (rightF (dHs (eHs (lnF (dSs a0) (dSs b1)))) (↑(List.length a0) : Int) != 0)
          (some [(.bool (false))])
          (cond (rightF (dHs (eHs (lnF (dSs a0) (dSs b1)))) (↑(List.length (dSs a0)) : Int) != 0)
           (some [(.bool (false))])
           (cond (isSs (eSs (applyF (dSs a0) (dHs (eHs (lnF (dSs a0) (dSs b1)))))) && (isSs b1 && gLL (dSs (eSs (applyF (dSs a0) (dHs (eHs (lnF (dSs a0) (dSs b1))))))) (dSs b1)))
            (cond (!decide (dSs (eSs (applyF (dSs a0) (dHs (eHs (lnF (dSs a0) (dSs b1)))))) = dSs b1))
             (some [(.bool (false))])
             (cond (isSs a0 && (isHs (eHs (lnF (dSs a0) (dSs b1))) && gAp (dSs a0) (dHs (eHs (lnF (dSs a0) (dSs b1))))))
              (cond (isSs b1 && (isHs (eHs (invF (dSs a0) (dHs (eHs (lnF (dSs a0) (dSs b1)))))) && gAp (dSs b1) (dHs (eHs (invF (dSs a0) (dHs (eHs (lnF (dSs a0) (dSs b1)))))))))
               (cond (rightF (dHs (eHs (lnF (dSs a0) (dSs b1)))) (↑(List.length (dSs a0)) : Int) == 0)
                (cond (rightF (dHs (eHs (invF (dSs a0) (dHs (eHs (lnF (dSs a0) (dSs b1))))))) (↑(List.length (dSs b1)) : Int) == 0)
                 (cond (isSs (eSs (applyF (dSs b1) (dHs (eHs (invF (dSs a0) (dHs (eHs (lnF (dSs a0) (dSs b1))))))))) && (isSs a0 && gLL (dSs (eSs (applyF (dSs b1) (dHs (eHs (invF (dSs a0) (dHs (eHs (lnF (dSs a0) (dSs b1)))))))))) (dSs a0)))
                  (cond (decide (dSs (eSs (applyF (dSs b1) (dHs (eHs (invF (dSs a0) (dHs (eHs (lnF (dSs a0) (dSs b1))))))))) = dSs a0))
                   (cond (isHs (eHs (invF (dSs a0) (dHs (eHs (lnF (dSs a0) (dSs b1)))))) && gDi (dHs (eHs (invF (dSs a0) (dHs (eHs (lnF (dSs a0) (dSs b1))))))))
                    (cond (isHs (eHs (lnF (dSs a0) (dSs b1))) && gDi (dHs (eHs (lnF (dSs a0) (dSs b1)))))
                     (some [(.bool (distF (dHs (eHs (invF (dSs a0) (dHs (eHs (lnF (dSs a0) (dSs b1))))))) == distF (dHs (eHs (lnF (dSs a0) (dSs b1))))))])
                     none)
                    none)
                   (some [(.bool (false))]))
                  none)
                 (some [(.bool (false))]))
                (some [(.bool (false))]))
               none)
              none))
            none)))
         none)
        none)
       none))
     none))
   none) := by kernel_rfl

/-! codesearch/codesearchlaw23.DiffLeast -/
theorem lLeast_e (G : Req → R) (a0 : List (List L)) (l1 : List (List L)) : runB (cfg [k_alive, k_fewA, k_hunksA, k_apply, k_Lines, k_dist]) G (.enter 6 [(.lf (.lst 9 a0)), (.lf (.lst 46 l1))] []) =
  (cond (isSs a0 && true)
   (cond (!fewF (dSs a0))
    (some [(.bool (true))])
    (cond (isHs l1 && true)
     (cond (!hunksF (dHs l1))
      (some [(.bool (true))])
      (cond (isSs a0 && (isHs l1 && gAp (dSs a0) (dHs l1)))
       (cond (rightF (dHs l1) (↑(List.length (dSs a0)) : Int) != 0)
        (some [(.bool (true))])
        (cond (isSs (eSs (applyF (dSs a0) (dHs l1))) && true)
         (cond (!fewF (dSs (eSs (applyF (dSs a0) (dHs l1)))))
          (some [(.bool (true))])
          (cond (isSs a0 && (isSs (eSs (applyF (dSs a0) (dHs l1))) && gL5 (dSs a0) (dSs (eSs (applyF (dSs a0) (dHs l1))))))
           (cond (isHs (eHs (lnF (dSs a0) (dSs (eSs (applyF (dSs a0) (dHs l1)))))) && gDi (dHs (eHs (lnF (dSs a0) (dSs (eSs (applyF (dSs a0) (dHs l1))))))))
            (cond (isHs l1 && gDi (dHs l1))
             (cond (leI (distF (dHs (eHs (lnF (dSs a0) (dSs (eSs (applyF (dSs a0) (dHs l1)))))))) (distF (dHs l1)))
              (cond (isSs (eSs (applyF (dSs a0) (dHs l1))) && (isSs a0 && gL5 (dSs (eSs (applyF (dSs a0) (dHs l1)))) (dSs a0)))
               (cond (isHs (eHs (lnF (dSs (eSs (applyF (dSs a0) (dHs l1)))) (dSs a0))) && gDi (dHs (eHs (lnF (dSs (eSs (applyF (dSs a0) (dHs l1)))) (dSs a0)))))
                (cond (distF (dHs (eHs (lnF (dSs a0) (dSs (eSs (applyF (dSs a0) (dHs l1))))))) == distF (dHs (eHs (lnF (dSs (eSs (applyF (dSs a0) (dHs l1)))) (dSs a0)))))
                 (cond (isSs a0 && (isSs a0 && gL5 (dSs a0) (dSs a0)))
                  (some [(.bool ((↑(List.length (eHs (lnF (dSs a0) (dSs a0)))) : Int) == 0))])
                  none)
                 (some [(.bool (false))]))
                none)
               none)
              (some [(.bool (false))]))
             none)
            none)
           none))
         none))
       none))
     none))
   none) := by kernel_rfl

/-! codesearch/codesearchlaw23.DiffMerging -/
theorem lMerging_e (G : Req → R) (base0 : List (List L)) (a1 : List (List L)) (b2 : List (List L)) : runB (cfg [k_alive, k_fewA, k_Merge, k_stext, k_marked]) G (.enter 7 [(.lf (.lst 9 base0)), (.lf (.lst 9 a1)), (.lf (.lst 9 b2))] []) =
  (cond (isSs base0 && true)
   (cond (!fewF (dSs base0))
    (some [(.bool (true))])
    (cond (isSs a1 && true)
     (cond (!fewF (dSs a1))
      (some [(.bool (true))])
      (cond (isSs b2 && true)
       (cond (!fewF (dSs b2))
        (some [(.bool (true))])
        (cond (ltI 20 (↑(List.length base0) : Int))
         (some [(.bool (true))])
         (cond (ltI 20 (↑(List.length a1) : Int))
          (some [(.bool (true))])
          (cond (ltI 20 (↑(List.length b2) : Int))
           (some [(.bool (true))])
           (cond (isSs base0 && (isSs a1 && (isSs base0 && gMg (dSs base0) (dSs a1) (dSs base0))))
            (cond (isSs base0 && (isSs a1 && (isSs a1 && gMg (dSs base0) (dSs a1) (dSs a1))))
             (cond (mgE (dSs base0) (lnF (dSs base0) (dSs a1)) (lnF (dSs base0) (dSs base0)) != 0)
              (some [(.bool (false))])
              (cond (mgE (dSs base0) (lnF (dSs base0) (dSs a1)) (lnF (dSs base0) (dSs a1)) != 0)
               (some [(.bool (false))])
               (cond (isSs (eSs (mgL (dSs base0) (lnF (dSs base0) (dSs a1)) (lnF (dSs base0) (dSs base0)))) && (isSs a1 && gLL (dSs (eSs (mgL (dSs base0) (lnF (dSs base0) (dSs a1)) (lnF (dSs base0) (dSs base0))))) (dSs a1)))
                (cond (!decide (dSs (eSs (mgL (dSs base0) (lnF (dSs base0) (dSs a1)) (lnF (dSs base0) (dSs base0)))) = dSs a1))
                 (some [(.bool (false))])
                 (cond (isSs (eSs (mgL (dSs base0) (lnF (dSs base0) (dSs a1)) (lnF (dSs base0) (dSs a1)))) && (isSs a1 && gLL (dSs (eSs (mgL (dSs base0) (lnF (dSs base0) (dSs a1)) (lnF (dSs base0) (dSs a1))))) (dSs a1)))
                  (cond (!decide (dSs (eSs (mgL (dSs base0) (lnF (dSs base0) (dSs a1)) (lnF (dSs base0) (dSs a1)))) = dSs a1))
                   (some [(.bool (false))])
                   (cond (isSs base0 && (isSs a1 && (isSs b2 && gMg (dSs base0) (dSs a1) (dSs b2))))
                    (cond (isSs base0 && (isSs b2 && (isSs a1 && gMg (dSs base0) (dSs b2) (dSs a1))))
                     (cond (mgE (dSs base0) (lnF (dSs base0) (dSs a1)) (lnF (dSs base0) (dSs b2)) != mgE (dSs base0) (lnF (dSs base0) (dSs b2)) (lnF (dSs base0) (dSs a1)))
                      (some [(.bool (false))])
                      (cond (isSs (eSs (mgL (dSs base0) (lnF (dSs base0) (dSs a1)) (lnF (dSs base0) (dSs b2)))) && (isSs (eSs (mgL (dSs base0) (lnF (dSs base0) (dSs b2)) (lnF (dSs base0) (dSs a1)))) && gLL (dSs (eSs (mgL (dSs base0) (lnF (dSs base0) (dSs a1)) (lnF (dSs base0) (dSs b2))))) (dSs (eSs (mgL (dSs base0) (lnF (dSs base0) (dSs b2)) (lnF (dSs base0) (dSs a1)))))))
                       (cond (!decide (dSs (eSs (mgL (dSs base0) (lnF (dSs base0) (dSs a1)) (lnF (dSs base0) (dSs b2)))) = dSs (eSs (mgL (dSs base0) (lnF (dSs base0) (dSs b2)) (lnF (dSs base0) (dSs a1))))))
                        (some [(.bool (false))])
                        (cond (roomN (0 + List.length base0) 16)
                         (cond (roomN (List.length ([] ++ base0) + 2) 16)
                          (cond (roomN (List.length ([] ++ base0 ++ [[L.str (mk [10, 49])], [L.str (mk [10, 50])]]) + List.length base0) 16)
                           (cond (roomN (0 + List.length a1) 16)
                            (cond (roomN (List.length ([] ++ a1) + 2) 16)
                             (cond (roomN (List.length ([] ++ a1 ++ [[L.str (mk [10, 49])], [L.str (mk [10, 50])]]) + List.length base0) 16)
                              (cond (roomN (0 + List.length base0) 16)
                               (cond (roomN (List.length ([] ++ base0) + 2) 16)
                                (cond (roomN (List.length ([] ++ base0 ++ [[L.str (mk [10, 49])], [L.str (mk [10, 50])]]) + List.length b2) 16)
                                 (cond (isSs base0 && sm (List.length (dSs base0)))
                                  (cond (!markedF (dSs base0))
                                   (some [(.bool (true))])
                                   (cond (isSs a1 && sm (List.length (dSs a1)))
                                    (cond (!markedF (dSs a1))
                                     (some [(.bool (true))])
                                     (cond (isSs b2 && sm (List.length (dSs b2)))
                                      (cond (!markedF (dSs b2))
                                       (some [(.bool (true))])
                                       (cond (isSs ([] ++ base0 ++ [[L.str (mk [10, 49])], [L.str (mk [10, 50])]] ++ base0) && (isSs ([] ++ a1 ++ [[L.str (mk [10, 49])], [L.str (mk [10, 50])]] ++ base0) && (isSs ([] ++ base0 ++ [[L.str (mk [10, 49])], [L.str (mk [10, 50])]] ++ b2) && gMg (dSs ([] ++ base0 ++ [[L.str (mk [10, 49])], [L.str (mk [10, 50])]] ++ base0)) (dSs ([] ++ a1 ++ [[L.str (mk [10, 49])], [L.str (mk [10, 50])]] ++ base0)) (dSs ([] ++ base0 ++ [[L.str (mk [10, 49])], [L.str (mk [10, 50])]] ++ b2)))))
                                        (cond (mgE (dSs ([] ++ base0 ++ [[L.str (mk [10, 49])], [L.str (mk [10, 50])]] ++ base0)) (lnF (dSs ([] ++ base0 ++ [[L.str (mk [10, 49])], [L.str (mk [10, 50])]] ++ base0)) (dSs ([] ++ a1 ++ [[L.str (mk [10, 49])], [L.str (mk [10, 50])]] ++ base0))) (lnF (dSs ([] ++ base0 ++ [[L.str (mk [10, 49])], [L.str (mk [10, 50])]] ++ base0)) (dSs ([] ++ base0 ++ [[L.str (mk [10, 49])], [L.str (mk [10, 50])]] ++ b2))) == 0)
                                         (cond (roomN (0 + List.length a1) 16)
                                          (cond (roomN (List.length ([] ++ a1) + 2) 16)
                                           (cond (roomN (List.length ([] ++ a1 ++ [[L.str (mk [10, 49])], [L.str (mk [10, 50])]]) + List.length b2) 16)
                                            (cond (isSs (eSs (mgL (dSs ([] ++ base0 ++ [[L.str (mk [10, 49])], [L.str (mk [10, 50])]] ++ base0)) (lnF (dSs ([] ++ base0 ++ [[L.str (mk [10, 49])], [L.str (mk [10, 50])]] ++ base0)) (dSs ([] ++ a1 ++ [[L.str (mk [10, 49])], [L.str (mk [10, 50])]] ++ base0))) (lnF (dSs ([] ++ base0 ++ [[L.str (mk [10, 49])], [L.str (mk [10, 50])]] ++ base0)) (dSs ([] ++ base0 ++ [[L.str (mk [10, 49])], [L.str (mk [10, 50])]] ++ b2))))) && (isSs ([] ++ a1 ++ [[L.str (mk [10, 49])], [L.str (mk [10, 50])]] ++ b2) && gLL (dSs (eSs (mgL (dSs ([] ++ base0 ++ [[L.str (mk [10, 49])], [L.str (mk [10, 50])]] ++ base0)) (lnF (dSs ([] ++ base0 ++ [[L.str (mk [10, 49])], [L.str (mk [10, 50])]] ++ base0)) (dSs ([] ++ a1 ++ [[L.str (mk [10, 49])], [L.str (mk [10, 50])]] ++ base0))) (lnF (dSs ([] ++ base0 ++ [[L.str (mk [10, 49])], [L.str (mk [10, 50])]] ++ base0)) (dSs ([] ++ base0 ++ [[L.str (mk [10, 49])], [L.str (mk [10, 50])]] ++ b2)))))) (dSs ([] ++ a1 ++ [[L.str (mk [10, 49])], [L.str (mk [10, 50])]] ++ b2))))
                                             (some [(.bool (decide (dSs (eSs (mgL (dSs ([] ++ base0 ++ [[L.str (mk [10, 49])], [L.str (mk [10, 50])]] ++ base0)) (lnF (dSs ([] ++ base0 ++ [[L.str (mk [10, 49])], [L.str (mk [10, 50])]] ++ base0)) (dSs ([] ++ a1 ++ [[L.str (mk [10, 49])], [L.str (mk [10, 50])]] ++ base0))) (lnF (dSs ([] ++ base0 ++ [[L.str (mk [10, 49])], [L.str (mk [10, 50])]] ++ base0)) (dSs ([] ++ base0 ++ [[L.str (mk [10, 49])], [L.str (mk [10, 50])]] ++ b2))))) = dSs ([] ++ a1 ++ [[L.str (mk [10, 49])], [L.str (mk [10, 50])]] ++ b2))))])
                                             none)
                                            none)
                                           none)
                                          none)
                                         (some [(.bool (false))]))
                                        none))
                                      none))
                                    none))
                                  none)
                                 none)
                                none)
                               none)
                              none)
                             none)
                            none)
                           none)
                          none)
                         none))
                       none))
                     none)
                    none))
                  none))
                none)))
             none)
            none)))))
       none))
     none))
   none) := by kernel_rfl

/-! codesearch/codesearchlaw23.DiffAgain -/
theorem lAgain_e (G : Req → R) (l0 : List (List L)) (s1 : ByteArray) : runB (cfg [k_alive, k_hunksA, k_right, k_plain, k_dPrint, k_dParse, k_Same]) G (.enter 8 [(.lf (.lst 46 l0)), (.lf (.str (s1)))] []) =
  (cond (isHs l0 && true)
   (cond (!hunksF (dHs l0))
    (some [(.bool (true))])
    (cond (ltI 1000 (↑(ByteArray.size s1) : Int))
     (some [(.bool (true))])
     (cond (isHs l0 && sm (List.length (dHs l0)))
      (cond (rightF (dHs l0) 2000 == 0)
       (cond (isHs l0 && (sm (List.length (dHs l0)) && List.all (dHs l0) fun h => sm (List.length (Hk.ls h)) && List.all (Hk.ls h) fun s => sm (List.length s)))
        (cond (plainF (dHs l0))
         (cond (isHs l0 && prOk (dHs l0))
          (cond (sm (List.length (bl (mk (prF (dHs l0))))))
           (cond ((bif Option.isSome (parR (bl (mk (prF (dHs l0))))) then (0 : Int) else 3) != 0)
            (some [(.bool (false))])
            (cond (isHs (eHs (Option.getD (parR (bl (mk (prF (dHs l0))))) [])) && (isHs l0 && (gHk (dHs (eHs (Option.getD (parR (bl (mk (prF (dHs l0))))) []))) && gHk (dHs l0))))
             (cond (!decide (dHs (eHs (Option.getD (parR (bl (mk (prF (dHs l0))))) [])) = dHs l0))
              (some [(.bool (false))])
              (cond (sm (List.length (bl s1)))
               (cond ((bif Option.isSome (parR (bl s1)) then (0 : Int) else 3) != 0)
                (cond ((bif Option.isSome (parR (bl s1)) then (0 : Int) else 3) == 3)
                 (some [(.bool ((↑(List.length (eHs (Option.getD (parR (bl s1)) []))) : Int) == 0))])
                 (some [(.bool (false))]))
                (cond (isHs (eHs (Option.getD (parR (bl s1)) [])) && sm (List.length (dHs (eHs (Option.getD (parR (bl s1)) [])))))
                 (cond (rightF (dHs (eHs (Option.getD (parR (bl s1)) []))) 2000 == 0)
                  (cond (isHs (eHs (Option.getD (parR (bl s1)) [])) && prOk (dHs (eHs (Option.getD (parR (bl s1)) []))))
                   (some [(.bool (bl (mk (prF (dHs (eHs (Option.getD (parR (bl s1)) []))))) == bl s1))])
                   none)
                  (some [(.bool (false))]))
                 none))
               none))
             none))
           none)
          none)
         (cond (sm (List.length (bl s1)))
          (cond ((bif Option.isSome (parR (bl s1)) then (0 : Int) else 3) != 0)
           (cond ((bif Option.isSome (parR (bl s1)) then (0 : Int) else 3) == 3)
            (some [(.bool ((↑(List.length (eHs (Option.getD (parR (bl s1)) []))) : Int) == 0))])
            (some [(.bool (false))]))
           (cond (isHs (eHs (Option.getD (parR (bl s1)) [])) && sm (List.length (dHs (eHs (Option.getD (parR (bl s1)) [])))))
            (cond (rightF (dHs (eHs (Option.getD (parR (bl s1)) []))) 2000 == 0)
             (cond (isHs (eHs (Option.getD (parR (bl s1)) [])) && prOk (dHs (eHs (Option.getD (parR (bl s1)) []))))
              (some [(.bool (bl (mk (prF (dHs (eHs (Option.getD (parR (bl s1)) []))))) == bl s1))])
              none)
             (some [(.bool (false))]))
            none))
          none))
        none)
       (cond (sm (List.length (bl s1)))
        (cond ((bif Option.isSome (parR (bl s1)) then (0 : Int) else 3) != 0)
         (cond ((bif Option.isSome (parR (bl s1)) then (0 : Int) else 3) == 3)
          (some [(.bool ((↑(List.length (eHs (Option.getD (parR (bl s1)) []))) : Int) == 0))])
          (some [(.bool (false))]))
         (cond (isHs (eHs (Option.getD (parR (bl s1)) [])) && sm (List.length (dHs (eHs (Option.getD (parR (bl s1)) [])))))
          (cond (rightF (dHs (eHs (Option.getD (parR (bl s1)) []))) 2000 == 0)
           (cond (isHs (eHs (Option.getD (parR (bl s1)) [])) && prOk (dHs (eHs (Option.getD (parR (bl s1)) []))))
            (some [(.bool (bl (mk (prF (dHs (eHs (Option.getD (parR (bl s1)) []))))) == bl s1))])
            none)
           (some [(.bool (false))]))
          none))
        none))
      none)))
   none) := by kernel_rfl

/-! codesearch/codesearchlaw23.hunks -/
noncomputable def hunksA_q4 (l0 : List (List L)) (i3 : Int) : Req := .point 21 [] (todoAt Tryd.prog 21 4) ⟨[(.lf (.lst 46 l0)), an, an, (.lf (.int IntKind.i64 i3)), an, an, an, an, an, an, an, an, an, an, an, an, an, an, an, an], []⟩
theorem hunksA_e (G : Req → R) (l0 : List (List L)) : runB (cfg [k_fewA]) G (.enter 21 [(.lf (.lst 46 l0))] []) =
  (cond (ltI 40 (↑(List.length l0) : Int))
   (some [(.bool (false))])
   (G (hunksA_q4 l0 0))) := by kernel_rfl
theorem hunksA_p4 (G : Req → R) (l0 : List (List L)) (i3 : Int) : runB (cfg [k_fewA]) G (hunksA_q4 l0 i3) =
  (cond (ltI i3 (↑(List.length l0) : Int))
   (cond (leI 0 i3 && ltI i3 (↑(List.length l0) : Int))
    (cond (isSs (cX 2 (atL l0 i3)) && true)
     (cond (!fewF (dSs (cX 2 (atL l0 i3))))
      (some [(.bool (false))])
      (G (hunksA_q4 l0 (wrapI IntKind.i64 (i3 + 1)))))
     none)
    none)
   (some [(.bool (true))])) := by kernel_rfl

end Go.Ab
namespace Go.Ab
open Go.Proofs
/-! slices.swapRangeCmpFunc[codesearch/api.Hunk] -/
noncomputable def swap_q1 (a1 : Int) (b2 : Int) (n3 : Int) (i10 : Int) (h0 : List (List L)) : Req := .point 80 [(.arr 46)] (todoAt Tryd.prog 80 1) ⟨[(.lf (.ars 0)), (.lf (.int IntKind.i64 a1)), (.lf (.int IntKind.i64 b2)), (.lf (.int IntKind.i64 n3)), an, an, an, an, an, an, (.lf (.int IntKind.i64 i10)), an, an, an, an, an, an, an, an, an, an, an, an, an, an, an, an, an, an, an, an, an, an, an, an, an, an, an], [(.arr 46 h0)]⟩
theorem swap_e (G : Req → R) (xs : List (List L)) (a : Int) (b : Int) (n : Int) : runB (cfg []) G (.enter 80 [(.lf (.ars (0))), (.lf (.int IntKind.i64 (a))), (.lf (.int IntKind.i64 (b))), (.lf (.int IntKind.i64 (n))), (.lf (.clo 45 []))] [(.arr 46 xs)]) =
  (G (swap_q1 a b n 0 xs)) := by kernel_rfl
theorem swap_p1 (G : Req → R) (a1 : Int) (b2 : Int) (n3 : Int) (i10 : Int) (h0 : List (List L)) : runB (cfg []) G (swap_q1 a1 b2 n3 i10 h0) =
  (cond (ltI i10 n3)
   (cond (leI 0 (wrapI IntKind.i64 (b2 + i10)) && ltI (wrapI IntKind.i64 (b2 + i10)) (↑(List.length h0) : Int))
    (cond (leI 0 (wrapI IntKind.i64 (a1 + i10)) && ltI (wrapI IntKind.i64 (a1 + i10)) (↑(List.length h0) : Int))
     (cond (leI 0 (wrapI IntKind.i64 (a1 + i10)) && ltI (wrapI IntKind.i64 (a1 + i10)) (↑(List.length h0) : Int))
      (cond (leI 0 (wrapI IntKind.i64 (b2 + i10)) && ltI (wrapI IntKind.i64 (b2 + i10)) (↑(List.length (List.set h0 (Int.toNat (wrapI IntKind.i64 (a1 + i10))) (splice 0 [L.int IntKind.i64 (cI 0 (atL h0 (wrapI IntKind.i64 (b2 + i10)))), L.int IntKind.i64 (cI 1 (atL h0 (wrapI IntKind.i64 (b2 + i10)))), L.lst 9 (cX 2 (atL h0 (wrapI IntKind.i64 (b2 + i10))))] (atL h0 (wrapI IntKind.i64 (a1 + i10)))))) : Int))
       (G (swap_q1 a1 b2 n3 (wrapI IntKind.i64 (i10 + 1)) (List.set (List.set h0 (Int.toNat (wrapI IntKind.i64 (a1 + i10))) (splice 0 [L.int IntKind.i64 (cI 0 (atL h0 (wrapI IntKind.i64 (b2 + i10)))), L.int IntKind.i64 (cI 1 (atL h0 (wrapI IntKind.i64 (b2 + i10)))), L.lst 9 (cX 2 (atL h0 (wrapI IntKind.i64 (b2 + i10))))] (atL h0 (wrapI IntKind.i64 (a1 + i10))))) (Int.toNat (wrapI IntKind.i64 (b2 + i10))) (splice 0 [L.int IntKind.i64 (cI 0 (atL h0 (wrapI IntKind.i64 (a1 + i10)))), L.int IntKind.i64 (cI 1 (atL h0 (wrapI IntKind.i64 (a1 + i10)))), L.lst 9 (cX 2 (atL h0 (wrapI IntKind.i64 (a1 + i10))))] (atL (List.set h0 (Int.toNat (wrapI IntKind.i64 (a1 + i10))) (splice 0 [L.int IntKind.i64 (cI 0 (atL h0 (wrapI IntKind.i64 (b2 + i10)))), L.int IntKind.i64 (cI 1 (atL h0 (wrapI IntKind.i64 (b2 + i10)))), L.lst 9 (cX 2 (atL h0 (wrapI IntKind.i64 (b2 + i10))))] (atL h0 (wrapI IntKind.i64 (a1 + i10))))) (wrapI IntKind.i64 (b2 + i10)))))))
       none)
      none)
     none)
    none)
   (some [(.lst 46 h0)])) := by kernel_rfl

/-! slices.rotateCmpFunc[codesearch/api.Hunk] -/
noncomputable def rot_q2 (m2 : Int) (i10 : Int) (j11 : Int) (h0 : List (List L)) : Req := .point 71 [(.arr 46)] (todoAt Tryd.prog 71 2) ⟨[(.lf (.ars 0)), an, (.lf (.int IntKind.i64 m2)), an, (.lf (.clo 45 [])), an, an, an, an, an, (.lf (.int IntKind.i64 i10)), (.lf (.int IntKind.i64 j11)), an, an, an, an, an, an, an, an, an, an, an, an, an, an, an, an, an, an, an, an, an, an, an, an, an, an, an, an, an, an, an, an, an, an, an, an, an, an, an, an, an, an, an, an, an, an], [(.arr 46 h0)]⟩
theorem rot_e (G : Req → R) (xs : List (List L)) (a : Int) (m : Int) (b : Int) : runB (cfg [k_swap]) G (.enter 71 [(.lf (.ars (0))), (.lf (.int IntKind.i64 (a))), (.lf (.int IntKind.i64 (m))), (.lf (.int IntKind.i64 (b))), (.lf (.clo 45 []))] [(.arr 46 xs)]) =
  (G (rot_q2 m (wrapI IntKind.i64 (m - a)) (wrapI IntKind.i64 (b - m)) xs)) := by kernel_rfl
theorem rot_p2 (G : Req → R) (m2 : Int) (i10 : Int) (j11 : Int) (h0 : List (List L)) : runB (cfg [k_swap]) G (rot_q2 m2 i10 j11 h0) =
  (cond (i10 != j11)
   (cond (ltI j11 i10)
    (cond (isHs h0 && gSw (dHs h0) (wrapI IntKind.i64 (m2 - i10)) m2 j11)
     (G (rot_q2 m2 (wrapI IntKind.i64 (i10 - j11)) j11 (eHs (swpF (dHs h0) (Int.toNat (wrapI IntKind.i64 (m2 - i10))) (Int.toNat m2) (Int.toNat j11)))))
     none)
    (cond (isHs h0 && gSw (dHs h0) (wrapI IntKind.i64 (m2 - i10)) (wrapI IntKind.i64 (wrapI IntKind.i64 (m2 + j11) - i10)) i10)
     (G (rot_q2 m2 i10 (wrapI IntKind.i64 (j11 - i10)) (eHs (swpF (dHs h0) (Int.toNat (wrapI IntKind.i64 (m2 - i10))) (Int.toNat (wrapI IntKind.i64 (wrapI IntKind.i64 (m2 + j11) - i10))) (Int.toNat i10)))))
     none))
   (cond (isHs h0 && gSw (dHs h0) (wrapI IntKind.i64 (m2 - i10)) m2 i10)
    (some [(.lst 46 (eHs (swpF (dHs h0) (Int.toNat (wrapI IntKind.i64 (m2 - i10))) (Int.toNat m2) (Int.toNat i10))))])
    none)) := by kernel_rfl

/-! slices.symMergeCmpFunc[codesearch/api.Hunk] -/
noncomputable def sym_q3 (a1 : Int) (i10 : Int) (j11 : Int) (h0 : List (List L)) : Req := .point 65 [(.arr 46)] (todoAt Tryd.prog 65 3) ⟨[(.lf (.ars 0)), (.lf (.int IntKind.i64 a1)), an, an, (.lf (.clo 45 [])), an, an, an, an, an, (.lf (.int IntKind.i64 i10)), (.lf (.int IntKind.i64 j11)), an, an, an, an, an, an, an, an, an, an, an, an, an, an, an, an, an, an, an, an, an, an, an, an, an, an, an, an, an, an, an, an, an, an, an, an, an, an, an, an, an, an, an, an, an, an, an, an, an, an, an, an, an, an, an, an, an, an, an, an, an, an, an, an, an, an, an, an, an, an, an, an, an, an, an, an, an, an, an, an, an, an, an, an, an, an, an, an, an, an, an, an, an, an, an, an, an, an, an, an, an, an, an, an, an, an, an, an, an, an, an, an, an, an, an, an, an, an, an, an, an, an, an, an, an, an, an, an, an, an, an, an, an, an, an, an, an, an, an, an, an, an, an, an, an, an, an, an, an, an, an, an, an, an, an, an, an, an, an, an, an, an, an, an, an, an, an, an, an, an, an, an, an, an, an, an, an, an, an, an, an, an, an, an, an, an, an, an, an, an, an, an, an, an, an, an, an, an, an, an, an, an, an, an, an, an, an, an], [(.arr 46 h0)]⟩
noncomputable def sym_q15 (m2 : Int) (i14 : Int) (j15 : Int) (h0 : List (List L)) : Req := .point 65 [(.arr 46)] (todoAt Tryd.prog 65 15) ⟨[(.lf (.ars 0)), an, (.lf (.int IntKind.i64 m2)), an, (.lf (.clo 45 [])), an, an, an, an, an, an, an, an, an, (.lf (.int IntKind.i64 i14)), (.lf (.int IntKind.i64 j15)), an, an, an, an, an, an, an, an, an, an, an, an, an, an, an, an, an, an, an, an, an, an, an, an, an, an, an, an, an, an, an, an, an, an, an, an, an, an, an, an, an, an, an, an, an, an, an, an, an, an, an, an, an, an, an, an, an, an, an, an, an, an, an, an, an, an, an, an, an, an, an, an, an, an, an, an, an, an, an, an, an, an, an, an, an, an, an, an, an, an, an, an, an, an, an, an, an, an, an, an, an, an, an, an, an, an, an, an, an, an, an, an, an, an, an, an, an, an, an, an, an, an, an, an, an, an, an, an, an, an, an, an, an, an, an, an, an, an, an, an, an, an, an, an, an, an, an, an, an, an, an, an, an, an, an, an, an, an, an, an, an, an, an, an, an, an, an, an, an, an, an, an, an, an, an, an, an, an, an, an, an, an, an, an, an, an, an, an, an, an, an, an, an, an, an, an, an, an, an, an, an, an, an, an], [(.arr 46 h0)]⟩
noncomputable def sym_q33 (a1 : Int) (m2 : Int) (b3 : Int) (mid18 : Int) (n19 : Int) (start20 : Int) (r21 : Int) (p22 : Int) (h0 : List (List L)) : Req := .point 65 [(.arr 46)] (todoAt Tryd.prog 65 33) ⟨[(.lf (.ars 0)), (.lf (.int IntKind.i64 a1)), (.lf (.int IntKind.i64 m2)), (.lf (.int IntKind.i64 b3)), (.lf (.clo 45 [])), an, an, an, an, an, an, an, an, an, an, an, an, an, (.lf (.int IntKind.i64 mid18)), (.lf (.int IntKind.i64 n19)), (.lf (.int IntKind.i64 start20)), (.lf (.int IntKind.i64 r21)), (.lf (.int IntKind.i64 p22)), an, an, an, an, an, an, an, an, an, an, an, an, an, an, an, an, an, an, an, an, an, an, an, an, an, an, an, an, an, an, an, an, an, an, an, an, an, an, an, an, an, an, an, an, an, an, an, an, an, an, an, an, an, an, an, an, an, an, an, an, an, an, an, an, an, an, an, an, an, an, an, an, an, an, an, an, an, an, an, an, an, an, an, an, an, an, an, an, an, an, an, an, an, an, an, an, an, an, an, an, an, an, an, an, an, an, an, an, an, an, an, an, an, an, an, an, an, an, an, an, an, an, an, an, an, an, an, an, an, an, an, an, an, an, an, an, an, an, an, an, an, an, an, an, an, an, an, an, an, an, an, an, an, an, an, an, an, an, an, an, an, an, an, an, an, an, an, an, an, an, an, an, an, an, an, an, an, an, an, an, an, an, an, an, an, an, an, an, an, an, an, an, an, an, an, an, an], [(.arr 46 h0)]⟩
noncomputable def sym_q9 (i10 : Int) (k13 : Int) (h0 : List (List L)) : Req := .point 65 [(.arr 46)] (todoAt Tryd.prog 65 9) ⟨[(.lf (.ars 0)), an, an, an, an, an, an, an, an, an, (.lf (.int IntKind.i64 i10)), an, an, (.lf (.int IntKind.i64 k13)), an, an, an, an, an, an, an, an, an, an, an, an, an, an, an, an, an, an, an, an, an, an, an, an, an, an, an, an, an, an, an, an, an, an, an, an, an, an, an, an, an, an, an, an, an, an, an, an, an, an, an, an, an, an, an, an, an, an, an, an, an, an, an, an, an, an, an, an, an, an, an, an, an, an, an, an, an, an, an, an, an, an, an, an, an, an, an, an, an, an, an, an, an, an, an, an, an, an, an, an, an, an, an, an, an, an, an, an, an, an, an, an, an, an, an, an, an, an, an, an, an, an, an, an, an, an, an, an, an, an, an, an, an, an, an, an, an, an, an, an, an, an, an, an, an, an, an, an, an, an, an, an, an, an, an, an, an, an, an, an, an, an, an, an, an, an, an, an, an, an, an, an, an, an, an, an, an, an, an, an, an, an, an, an, an, an, an, an, an, an, an, an, an, an, an, an, an, an, an, an, an, an, an, an, an, an], [(.arr 46 h0)]⟩
noncomputable def sym_q21 (i14 : Int) (k17 : Int) (h0 : List (List L)) : Req := .point 65 [(.arr 46)] (todoAt Tryd.prog 65 21) ⟨[(.lf (.ars 0)), an, an, an, an, an, an, an, an, an, an, an, an, an, (.lf (.int IntKind.i64 i14)), an, an, (.lf (.int IntKind.i64 k17)), an, an, an, an, an, an, an, an, an, an, an, an, an, an, an, an, an, an, an, an, an, an, an, an, an, an, an, an, an, an, an, an, an, an, an, an, an, an, an, an, an, an, an, an, an, an, an, an, an, an, an, an, an, an, an, an, an, an, an, an, an, an, an, an, an, an, an, an, an, an, an, an, an, an, an, an, an, an, an, an, an, an, an, an, an, an, an, an, an, an, an, an, an, an, an, an, an, an, an, an, an, an, an, an, an, an, an, an, an, an, an, an, an, an, an, an, an, an, an, an, an, an, an, an, an, an, an, an, an, an, an, an, an, an, an, an, an, an, an, an, an, an, an, an, an, an, an, an, an, an, an, an, an, an, an, an, an, an, an, an, an, an, an, an, an, an, an, an, an, an, an, an, an, an, an, an, an, an, an, an, an, an, an, an, an, an, an, an, an, an, an, an, an, an, an, an, an, an, an, an, an, an], [(.arr 46 h0)]⟩
theorem sym_e (G : Req → R) (z : Nat) (xs : List (List L)) (a : Int) (m : Int) (b : Int) : runB (cfg [(k_symN z), k_rot, k_cmp]) G (.enter 65 [(.lf (.ars (0))), (.lf (.int IntKind.i64 (a))), (.lf (.int IntKind.i64 (m))), (.lf (.int IntKind.i64 (b))), (.lf (.clo 45 []))] [(.arr 46 xs)]) =
  (cond (wrapI IntKind.i64 (m - a) == 1)
   (G (sym_q3 a m b xs))
   (cond (wrapI IntKind.i64 (b - m) == 1)
    (G (sym_q15 m a m xs))
    (cond (ltI (wrapI IntKind.i64 (Int.fdiv (wrapI IntKind.u64 (wrapI IntKind.i64 (a + b))) (2 ^ 1))) m)
     (G (sym_q33 a m b (wrapI IntKind.i64 (Int.fdiv (wrapI IntKind.u64 (wrapI IntKind.i64 (a + b))) (2 ^ 1))) (wrapI IntKind.i64 (wrapI IntKind.i64 (Int.fdiv (wrapI IntKind.u64 (wrapI IntKind.i64 (a + b))) (2 ^ 1)) + m)) (wrapI IntKind.i64 (wrapI IntKind.i64 (wrapI IntKind.i64 (Int.fdiv (wrapI IntKind.u64 (wrapI IntKind.i64 (a + b))) (2 ^ 1)) + m) - b)) (wrapI IntKind.i64 (Int.fdiv (wrapI IntKind.u64 (wrapI IntKind.i64 (a + b))) (2 ^ 1))) (wrapI IntKind.i64 (wrapI IntKind.i64 (wrapI IntKind.i64 (Int.fdiv (wrapI IntKind.u64 (wrapI IntKind.i64 (a + b))) (2 ^ 1)) + m) - 1)) xs))
     (G (sym_q33 a m b (wrapI IntKind.i64 (Int.fdiv (wrapI IntKind.u64 (wrapI IntKind.i64 (a + b))) (2 ^ 1))) (wrapI IntKind.i64 (wrapI IntKind.i64 (Int.fdiv (wrapI IntKind.u64 (wrapI IntKind.i64 (a + b))) (2 ^ 1)) + m)) a m (wrapI IntKind.i64 (wrapI IntKind.i64 (wrapI IntKind.i64 (Int.fdiv (wrapI IntKind.u64 (wrapI IntKind.i64 (a + b))) (2 ^ 1)) + m) - 1)) xs))))) := by kernel_rfl
theorem sym_p3 (G : Req → R) (z : Nat) (a1 : Int) (i10 : Int) (j11 : Int) (h0 : List (List L)) : runB (cfg [(k_symN z), k_rot, k_cmp]) G (sym_q3 a1 i10 j11 h0) =
  (cond (ltI i10 j11)
   (cond (leI 0 (wrapI IntKind.i64 (Int.fdiv (wrapI IntKind.u64 (wrapI IntKind.i64 (i10 + j11))) (2 ^ 1))) && ltI (wrapI IntKind.i64 (Int.fdiv (wrapI IntKind.u64 (wrapI IntKind.i64 (i10 + j11))) (2 ^ 1))) (↑(List.length h0) : Int))
    (cond (leI 0 a1 && ltI a1 (↑(List.length h0) : Int))
     (cond (gNr (cI 0 (atL h0 (wrapI IntKind.i64 (Int.fdiv (wrapI IntKind.u64 (wrapI IntKind.i64 (i10 + j11))) (2 ^ 1))))) && gNr (cI 0 (atL h0 a1)))
      (cond (ltI (cI 0 (atL h0 (wrapI IntKind.i64 (Int.fdiv (wrapI IntKind.u64 (wrapI IntKind.i64 (i10 + j11))) (2 ^ 1)))) - cI 0 (atL h0 a1)) 0)
       (G (sym_q3 a1 (wrapI IntKind.i64 (wrapI IntKind.i64 (Int.fdiv (wrapI IntKind.u64 (wrapI IntKind.i64 (i10 + j11))) (2 ^ 1)) + 1)) j11 h0))
       (G (sym_q3 a1 i10 (wrapI IntKind.i64 (Int.fdiv (wrapI IntKind.u64 (wrapI IntKind.i64 (i10 + j11))) (2 ^ 1))) h0)))
      none)
     none)
    none)
   (G (sym_q9 i10 a1 h0))) := by kernel_rfl
theorem sym_p15 (G : Req → R) (z : Nat) (m2 : Int) (i14 : Int) (j15 : Int) (h0 : List (List L)) : runB (cfg [(k_symN z), k_rot, k_cmp]) G (sym_q15 m2 i14 j15 h0) =
  (cond (ltI i14 j15)
   (cond (leI 0 m2 && ltI m2 (↑(List.length h0) : Int))
    (cond (leI 0 (wrapI IntKind.i64 (Int.fdiv (wrapI IntKind.u64 (wrapI IntKind.i64 (i14 + j15))) (2 ^ 1))) && ltI (wrapI IntKind.i64 (Int.fdiv (wrapI IntKind.u64 (wrapI IntKind.i64 (i14 + j15))) (2 ^ 1))) (↑(List.length h0) : Int))
     (cond (gNr (cI 0 (atL h0 m2)) && gNr (cI 0 (atL h0 (wrapI IntKind.i64 (Int.fdiv (wrapI IntKind.u64 (wrapI IntKind.i64 (i14 + j15))) (2 ^ 1))))))
      (cond (!ltI (cI 0 (atL h0 m2) - cI 0 (atL h0 (wrapI IntKind.i64 (Int.fdiv (wrapI IntKind.u64 (wrapI IntKind.i64 (i14 + j15))) (2 ^ 1))))) 0)
       (G (sym_q15 m2 (wrapI IntKind.i64 (wrapI IntKind.i64 (Int.fdiv (wrapI IntKind.u64 (wrapI IntKind.i64 (i14 + j15))) (2 ^ 1)) + 1)) j15 h0))
       (G (sym_q15 m2 i14 (wrapI IntKind.i64 (Int.fdiv (wrapI IntKind.u64 (wrapI IntKind.i64 (i14 + j15))) (2 ^ 1))) h0)))
      none)
     none)
    none)
   (G (sym_q21 i14 m2 h0))) := by kernel_rfl
theorem sym_p33 (G : Req → R) (z : Nat) (a1 : Int) (m2 : Int) (b3 : Int) (mid18 : Int) (n19 : Int) (start20 : Int) (r21 : Int) (p22 : Int) (h0 : List (List L)) : runB (cfg [(k_symN z), k_rot, k_cmp]) G (sym_q33 a1 m2 b3 mid18 n19 start20 r21 p22 h0) =
  (cond (ltI start20 r21)
   (cond (leI 0 (wrapI IntKind.i64 (p22 - wrapI IntKind.i64 (Int.fdiv (wrapI IntKind.u64 (wrapI IntKind.i64 (start20 + r21))) (2 ^ 1)))) && ltI (wrapI IntKind.i64 (p22 - wrapI IntKind.i64 (Int.fdiv (wrapI IntKind.u64 (wrapI IntKind.i64 (start20 + r21))) (2 ^ 1)))) (↑(List.length h0) : Int))
    (cond (leI 0 (wrapI IntKind.i64 (Int.fdiv (wrapI IntKind.u64 (wrapI IntKind.i64 (start20 + r21))) (2 ^ 1))) && ltI (wrapI IntKind.i64 (Int.fdiv (wrapI IntKind.u64 (wrapI IntKind.i64 (start20 + r21))) (2 ^ 1))) (↑(List.length h0) : Int))
     (cond (gNr (cI 0 (atL h0 (wrapI IntKind.i64 (p22 - wrapI IntKind.i64 (Int.fdiv (wrapI IntKind.u64 (wrapI IntKind.i64 (start20 + r21))) (2 ^ 1)))))) && gNr (cI 0 (atL h0 (wrapI IntKind.i64 (Int.fdiv (wrapI IntKind.u64 (wrapI IntKind.i64 (start20 + r21))) (2 ^ 1))))))
      (cond (!ltI (cI 0 (atL h0 (wrapI IntKind.i64 (p22 - wrapI IntKind.i64 (Int.fdiv (wrapI IntKind.u64 (wrapI IntKind.i64 (start20 + r21))) (2 ^ 1))))) - cI 0 (atL h0 (wrapI IntKind.i64 (Int.fdiv (wrapI IntKind.u64 (wrapI IntKind.i64 (start20 + r21))) (2 ^ 1))))) 0)
       (G (sym_q33 a1 m2 b3 mid18 n19 (wrapI IntKind.i64 (wrapI IntKind.i64 (Int.fdiv (wrapI IntKind.u64 (wrapI IntKind.i64 (start20 + r21))) (2 ^ 1)) + 1)) r21 p22 h0))
       (G (sym_q33 a1 m2 b3 mid18 n19 start20 (wrapI IntKind.i64 (Int.fdiv (wrapI IntKind.u64 (wrapI IntKind.i64 (start20 + r21))) (2 ^ 1))) p22 h0)))
      none)
     none)
    none)
   (cond (ltI start20 m2)
    (cond (ltI m2 (wrapI IntKind.i64 (n19 - start20)))
     (cond (isHs h0 && gRo (dHs h0) start20 m2 (wrapI IntKind.i64 (n19 - start20)))
      (cond (ltI a1 start20)
       (cond (ltI start20 mid18)
        (cond (isHs (eHs (rotF (dHs h0) (Int.toNat start20) (Int.toNat m2) (Int.toNat (wrapI IntKind.i64 (n19 - start20))))) && (gSy (dHs (eHs (rotF (dHs h0) (Int.toNat start20) (Int.toNat m2) (Int.toNat (wrapI IntKind.i64 (n19 - start20)))))) a1 start20 mid18 && leI (mid18 - a1) (↑z : Int)))
         (cond (ltI mid18 (wrapI IntKind.i64 (n19 - start20)))
          (cond (ltI (wrapI IntKind.i64 (n19 - start20)) b3)
           (cond (isHs (eHs (srtP (dHs (eHs (rotF (dHs h0) (Int.toNat start20) (Int.toNat m2) (Int.toNat (wrapI IntKind.i64 (n19 - start20)))))) (Int.toNat a1) (Int.toNat mid18))) && (gSy (dHs (eHs (srtP (dHs (eHs (rotF (dHs h0) (Int.toNat start20) (Int.toNat m2) (Int.toNat (wrapI IntKind.i64 (n19 - start20)))))) (Int.toNat a1) (Int.toNat mid18)))) mid18 (wrapI IntKind.i64 (n19 - start20)) b3 && leI (b3 - mid18) (↑z : Int)))
            (some [(.lst 46 (eHs (srtP (dHs (eHs (srtP (dHs (eHs (rotF (dHs h0) (Int.toNat start20) (Int.toNat m2) (Int.toNat (wrapI IntKind.i64 (n19 - start20)))))) (Int.toNat a1) (Int.toNat mid18)))) (Int.toNat mid18) (Int.toNat b3))))])
            none)
           (some [(.lst 46 (eHs (srtP (dHs (eHs (rotF (dHs h0) (Int.toNat start20) (Int.toNat m2) (Int.toNat (wrapI IntKind.i64 (n19 - start20)))))) (Int.toNat a1) (Int.toNat mid18))))]))
          (some [(.lst 46 (eHs (srtP (dHs (eHs (rotF (dHs h0) (Int.toNat start20) (Int.toNat m2) (Int.toNat (wrapI IntKind.i64 (n19 - start20)))))) (Int.toNat a1) (Int.toNat mid18))))]))
         none)
        (cond (ltI mid18 (wrapI IntKind.i64 (n19 - start20)))
         (cond (ltI (wrapI IntKind.i64 (n19 - start20)) b3)
          (cond (isHs (eHs (rotF (dHs h0) (Int.toNat start20) (Int.toNat m2) (Int.toNat (wrapI IntKind.i64 (n19 - start20))))) && (gSy (dHs (eHs (rotF (dHs h0) (Int.toNat start20) (Int.toNat m2) (Int.toNat (wrapI IntKind.i64 (n19 - start20)))))) mid18 (wrapI IntKind.i64 (n19 - start20)) b3 && leI (b3 - mid18) (↑z : Int)))
           (some [(.lst 46 (eHs (srtP (dHs (eHs (rotF (dHs h0) (Int.toNat start20) (Int.toNat m2) (Int.toNat (wrapI IntKind.i64 (n19 - start20)))))) (Int.toNat mid18) (Int.toNat b3))))])
           none)
          (some [(.lst 46 (eHs (rotF (dHs h0) (Int.toNat start20) (Int.toNat m2) (Int.toNat (wrapI IntKind.i64 (n19 - start20))))))]))
         (some [(.lst 46 (eHs (rotF (dHs h0) (Int.toNat start20) (Int.toNat m2) (Int.toNat (wrapI IntKind.i64 (n19 - start20))))))])))
       (cond (ltI mid18 (wrapI IntKind.i64 (n19 - start20)))
        (cond (ltI (wrapI IntKind.i64 (n19 - start20)) b3)
         (cond (isHs (eHs (rotF (dHs h0) (Int.toNat start20) (Int.toNat m2) (Int.toNat (wrapI IntKind.i64 (n19 - start20))))) && (gSy (dHs (eHs (rotF (dHs h0) (Int.toNat start20) (Int.toNat m2) (Int.toNat (wrapI IntKind.i64 (n19 - start20)))))) mid18 (wrapI IntKind.i64 (n19 - start20)) b3 && leI (b3 - mid18) (↑z : Int)))
          (some [(.lst 46 (eHs (srtP (dHs (eHs (rotF (dHs h0) (Int.toNat start20) (Int.toNat m2) (Int.toNat (wrapI IntKind.i64 (n19 - start20)))))) (Int.toNat mid18) (Int.toNat b3))))])
          none)
         (some [(.lst 46 (eHs (rotF (dHs h0) (Int.toNat start20) (Int.toNat m2) (Int.toNat (wrapI IntKind.i64 (n19 - start20))))))]))
        (some [(.lst 46 (eHs (rotF (dHs h0) (Int.toNat start20) (Int.toNat m2) (Int.toNat (wrapI IntKind.i64 (n19 - start20))))))])))
      none)
     (cond (ltI a1 start20)
      (cond (ltI start20 mid18)
       (cond (isHs h0 && (gSy (dHs h0) a1 start20 mid18 && leI (mid18 - a1) (↑z : Int)))
        (cond (ltI mid18 (wrapI IntKind.i64 (n19 - start20)))
         (cond (ltI (wrapI IntKind.i64 (n19 - start20)) b3)
          (cond (isHs (eHs (srtP (dHs h0) (Int.toNat a1) (Int.toNat mid18))) && (gSy (dHs (eHs (srtP (dHs h0) (Int.toNat a1) (Int.toNat mid18)))) mid18 (wrapI IntKind.i64 (n19 - start20)) b3 && leI (b3 - mid18) (↑z : Int)))
           (some [(.lst 46 (eHs (srtP (dHs (eHs (srtP (dHs h0) (Int.toNat a1) (Int.toNat mid18)))) (Int.toNat mid18) (Int.toNat b3))))])
           none)
          (some [(.lst 46 (eHs (srtP (dHs h0) (Int.toNat a1) (Int.toNat mid18))))]))
         (some [(.lst 46 (eHs (srtP (dHs h0) (Int.toNat a1) (Int.toNat mid18))))]))
        none)
       (cond (ltI mid18 (wrapI IntKind.i64 (n19 - start20)))
        (cond (ltI (wrapI IntKind.i64 (n19 - start20)) b3)
         (cond (isHs h0 && (gSy (dHs h0) mid18 (wrapI IntKind.i64 (n19 - start20)) b3 && leI (b3 - mid18) (↑z : Int)))
          (some [(.lst 46 (eHs (srtP (dHs h0) (Int.toNat mid18) (Int.toNat b3))))])
          none)
         (some [(.lst 46 h0)]))
        (some [(.lst 46 h0)])))
      (cond (ltI mid18 (wrapI IntKind.i64 (n19 - start20)))
       (cond (ltI (wrapI IntKind.i64 (n19 - start20)) b3)
        (cond (isHs h0 && (gSy (dHs h0) mid18 (wrapI IntKind.i64 (n19 - start20)) b3 && leI (b3 - mid18) (↑z : Int)))
         (some [(.lst 46 (eHs (srtP (dHs h0) (Int.toNat mid18) (Int.toNat b3))))])
         none)
        (some [(.lst 46 h0)]))
       (some [(.lst 46 h0)]))))
    (cond (ltI a1 start20)
     (cond (ltI start20 mid18)
      (cond (isHs h0 && (gSy (dHs h0) a1 start20 mid18 && leI (mid18 - a1) (↑z : Int)))
       (cond (ltI mid18 (wrapI IntKind.i64 (n19 - start20)))
        (cond (ltI (wrapI IntKind.i64 (n19 - start20)) b3)
         (cond (isHs (eHs (srtP (dHs h0) (Int.toNat a1) (Int.toNat mid18))) && (gSy (dHs (eHs (srtP (dHs h0) (Int.toNat a1) (Int.toNat mid18)))) mid18 (wrapI IntKind.i64 (n19 - start20)) b3 && leI (b3 - mid18) (↑z : Int)))
          (some [(.lst 46 (eHs (srtP (dHs (eHs (srtP (dHs h0) (Int.toNat a1) (Int.toNat mid18)))) (Int.toNat mid18) (Int.toNat b3))))])
          none)
         (some [(.lst 46 (eHs (srtP (dHs h0) (Int.toNat a1) (Int.toNat mid18))))]))
        (some [(.lst 46 (eHs (srtP (dHs h0) (Int.toNat a1) (Int.toNat mid18))))]))
       none)
      (cond (ltI mid18 (wrapI IntKind.i64 (n19 - start20)))
       (cond (ltI (wrapI IntKind.i64 (n19 - start20)) b3)
        (cond (isHs h0 && (gSy (dHs h0) mid18 (wrapI IntKind.i64 (n19 - start20)) b3 && leI (b3 - mid18) (↑z : Int)))
         (some [(.lst 46 (eHs (srtP (dHs h0) (Int.toNat mid18) (Int.toNat b3))))])
         none)
        (some [(.lst 46 h0)]))
       (some [(.lst 46 h0)])))
     (cond (ltI mid18 (wrapI IntKind.i64 (n19 - start20)))
      (cond (ltI (wrapI IntKind.i64 (n19 - start20)) b3)
       (cond (isHs h0 && (gSy (dHs h0) mid18 (wrapI IntKind.i64 (n19 - start20)) b3 && leI (b3 - mid18) (↑z : Int)))
        (some [(.lst 46 (eHs (srtP (dHs h0) (Int.toNat mid18) (Int.toNat b3))))])
        none)
       (some [(.lst 46 h0)]))
      (some [(.lst 46 h0)]))))) := by kernel_rfl
theorem sym_p9 (G : Req → R) (z : Nat) (i10 : Int) (k13 : Int) (h0 : List (List L)) : runB (cfg [(k_symN z), k_rot, k_cmp]) G (sym_q9 i10 k13 h0) =
  (cond (ltI k13 (wrapI IntKind.i64 (i10 - 1)))
   (cond (leI 0 (wrapI IntKind.i64 (k13 + 1)) && ltI (wrapI IntKind.i64 (k13 + 1)) (↑(List.length h0) : Int))
    (cond (leI 0 k13 && ltI k13 (↑(List.length h0) : Int))
     (cond (leI 0 k13 && ltI k13 (↑(List.length h0) : Int))
      (cond (leI 0 (wrapI IntKind.i64 (k13 + 1)) && ltI (wrapI IntKind.i64 (k13 + 1)) (↑(List.length (List.set h0 (Int.toNat k13) (splice 0 [L.int IntKind.i64 (cI 0 (atL h0 (wrapI IntKind.i64 (k13 + 1)))), L.int IntKind.i64 (cI 1 (atL h0 (wrapI IntKind.i64 (k13 + 1)))), L.lst 9 (cX 2 (atL h0 (wrapI IntKind.i64 (k13 + 1))))] (atL h0 k13)))) : Int))
       (G (sym_q9 i10 (wrapI IntKind.i64 (k13 + 1)) (List.set (List.set h0 (Int.toNat k13) (splice 0 [L.int IntKind.i64 (cI 0 (atL h0 (wrapI IntKind.i64 (k13 + 1)))), L.int IntKind.i64 (cI 1 (atL h0 (wrapI IntKind.i64 (k13 + 1)))), L.lst 9 (cX 2 (atL h0 (wrapI IntKind.i64 (k13 + 1))))] (atL h0 k13))) (Int.toNat (wrapI IntKind.i64 (k13 + 1))) (splice 0 [L.int IntKind.i64 (cI 0 (atL h0 k13)), L.int IntKind.i64 (cI 1 (atL h0 k13)), L.lst 9 (cX 2 (atL h0 k13))] (atL (List.set h0 (Int.toNat k13) (splice 0 [L.int IntKind.i64 (cI 0 (atL h0 (wrapI IntKind.i64 (k13 + 1)))), L.int IntKind.i64 (cI 1 (atL h0 (wrapI IntKind.i64 (k13 + 1)))), L.lst 9 (cX 2 (atL h0 (wrapI IntKind.i64 (k13 + 1))))] (atL h0 k13))) (wrapI IntKind.i64 (k13 + 1)))))))
       none)
      none)
     none)
    none)
   (some [(.lst 46 h0)])) := by kernel_rfl
theorem sym_p21 (G : Req → R) (z : Nat) (i14 : Int) (k17 : Int) (h0 : List (List L)) : runB (cfg [(k_symN z), k_rot, k_cmp]) G (sym_q21 i14 k17 h0) =
  (cond (ltI i14 k17)
   (cond (leI 0 (wrapI IntKind.i64 (k17 - 1)) && ltI (wrapI IntKind.i64 (k17 - 1)) (↑(List.length h0) : Int))
    (cond (leI 0 k17 && ltI k17 (↑(List.length h0) : Int))
     (cond (leI 0 k17 && ltI k17 (↑(List.length h0) : Int))
      (cond (leI 0 (wrapI IntKind.i64 (k17 - 1)) && ltI (wrapI IntKind.i64 (k17 - 1)) (↑(List.length (List.set h0 (Int.toNat k17) (splice 0 [L.int IntKind.i64 (cI 0 (atL h0 (wrapI IntKind.i64 (k17 - 1)))), L.int IntKind.i64 (cI 1 (atL h0 (wrapI IntKind.i64 (k17 - 1)))), L.lst 9 (cX 2 (atL h0 (wrapI IntKind.i64 (k17 - 1))))] (atL h0 k17)))) : Int))
       (G (sym_q21 i14 (wrapI IntKind.i64 (k17 - 1)) (List.set (List.set h0 (Int.toNat k17) (splice 0 [L.int IntKind.i64 (cI 0 (atL h0 (wrapI IntKind.i64 (k17 - 1)))), L.int IntKind.i64 (cI 1 (atL h0 (wrapI IntKind.i64 (k17 - 1)))), L.lst 9 (cX 2 (atL h0 (wrapI IntKind.i64 (k17 - 1))))] (atL h0 k17))) (Int.toNat (wrapI IntKind.i64 (k17 - 1))) (splice 0 [L.int IntKind.i64 (cI 0 (atL h0 k17)), L.int IntKind.i64 (cI 1 (atL h0 k17)), L.lst 9 (cX 2 (atL h0 k17))] (atL (List.set h0 (Int.toNat k17) (splice 0 [L.int IntKind.i64 (cI 0 (atL h0 (wrapI IntKind.i64 (k17 - 1)))), L.int IntKind.i64 (cI 1 (atL h0 (wrapI IntKind.i64 (k17 - 1)))), L.lst 9 (cX 2 (atL h0 (wrapI IntKind.i64 (k17 - 1))))] (atL h0 k17))) (wrapI IntKind.i64 (k17 - 1)))))))
       none)
      none)
     none)
    none)
   (some [(.lst 46 h0)])) := by kernel_rfl

end Go.Ab
namespace Go.Ab
open Go.Proofs
/-! codesearch/diff.Merge$1 -/
theorem cmp_e (G : Req → R) (a : Int) (b : Int) (xs : List (List L)) (c : Int) (d : Int) (ys : List (List L)) : runB (cfg []) G (.enter 45 [(.agg [(.int IntKind.i64 (a)), (.int IntKind.i64 (b)), (.lst 9 xs)]), (.agg [(.int IntKind.i64 (c)), (.int IntKind.i64 (d)), (.lst 9 ys)])] []) =
  (some [(.int IntKind.i64 (wrapI IntKind.i64 (a - c)))]) := by kernel_rfl

/-! slices.insertionSortCmpFunc[codesearch/api.Hunk] -/
noncomputable def isort_q1 (a1 : Int) (b2 : Int) (i8 : Int) (h0 : List (List L)) : Req := .point 64 [(.arr 46)] (todoAt Tryd.prog 64 1) ⟨[(.lf (.ars 0)), (.lf (.int IntKind.i64 a1)), (.lf (.int IntKind.i64 b2)), (.lf (.clo 45 [])), an, an, an, an, (.lf (.int IntKind.i64 i8)), an, an, an, an, an, an, an, an, an, an, an, an, an, an, an, an, an, an, an, an, an, an, an, an, an, an, an, an, an, an, an, an, an, an, an, an, an, an, an, an, an, an, an, an], [(.arr 46 h0)]⟩
noncomputable def isort_q4 (a1 : Int) (b2 : Int) (i8 : Int) (j9 : Int) (h0 : List (List L)) : Req := .point 64 [(.arr 46)] (todoAt Tryd.prog 64 4) ⟨[(.lf (.ars 0)), (.lf (.int IntKind.i64 a1)), (.lf (.int IntKind.i64 b2)), (.lf (.clo 45 [])), an, an, an, an, (.lf (.int IntKind.i64 i8)), (.lf (.int IntKind.i64 j9)), an, an, an, an, an, an, an, an, an, an, an, an, an, an, an, an, an, an, an, an, an, an, an, an, an, an, an, an, an, an, an, an, an, an, an, an, an, an, an, an, an, an, an], [(.arr 46 h0)]⟩
theorem isort_e (G : Req → R) (xs : List (List L)) (a : Int) (b : Int) : runB (cfg [k_cmp]) G (.enter 64 [(.lf (.ars (0))), (.lf (.int IntKind.i64 (a))), (.lf (.int IntKind.i64 (b))), (.lf (.clo 45 []))] [(.arr 46 xs)]) =
  (G (isort_q1 a b (wrapI IntKind.i64 (a + 1)) xs)) := by kernel_rfl
theorem isort_p1 (G : Req → R) (a1 : Int) (b2 : Int) (i8 : Int) (h0 : List (List L)) : runB (cfg [k_cmp]) G (isort_q1 a1 b2 i8 h0) =
  (cond (ltI i8 b2)
   (G (isort_q4 a1 b2 i8 i8 h0))
   (some [(.lst 46 h0)])) := by kernel_rfl
theorem isort_p4 (G : Req → R) (a1 : Int) (b2 : Int) (i8 : Int) (j9 : Int) (h0 : List (List L)) : runB (cfg [k_cmp]) G (isort_q4 a1 b2 i8 j9 h0) =
  (cond (ltI a1 j9)
   (cond (leI 0 j9 && ltI j9 (↑(List.length h0) : Int))
    (cond (leI 0 (wrapI IntKind.i64 (j9 - 1)) && ltI (wrapI IntKind.i64 (j9 - 1)) (↑(List.length h0) : Int))
     (cond (gNr (cI 0 (atL h0 j9)) && gNr (cI 0 (atL h0 (wrapI IntKind.i64 (j9 - 1)))))
      (cond (ltI (cI 0 (atL h0 j9) - cI 0 (atL h0 (wrapI IntKind.i64 (j9 - 1)))) 0)
       (cond (leI 0 (wrapI IntKind.i64 (j9 - 1)) && ltI (wrapI IntKind.i64 (j9 - 1)) (↑(List.length h0) : Int))
        (cond (leI 0 j9 && ltI j9 (↑(List.length h0) : Int))
         (cond (leI 0 j9 && ltI j9 (↑(List.length h0) : Int))
          (cond (leI 0 (wrapI IntKind.i64 (j9 - 1)) && ltI (wrapI IntKind.i64 (j9 - 1)) (↑(List.length (List.set h0 (Int.toNat j9) (splice 0 [L.int IntKind.i64 (cI 0 (atL h0 (wrapI IntKind.i64 (j9 - 1)))), L.int IntKind.i64 (cI 1 (atL h0 (wrapI IntKind.i64 (j9 - 1)))), L.lst 9 (cX 2 (atL h0 (wrapI IntKind.i64 (j9 - 1))))] (atL h0 j9)))) : Int))
           (G (isort_q4 a1 b2 i8 (wrapI IntKind.i64 (j9 - 1)) (List.set (List.set h0 (Int.toNat j9) (splice 0 [L.int IntKind.i64 (cI 0 (atL h0 (wrapI IntKind.i64 (j9 - 1)))), L.int IntKind.i64 (cI 1 (atL h0 (wrapI IntKind.i64 (j9 - 1)))), L.lst 9 (cX 2 (atL h0 (wrapI IntKind.i64 (j9 - 1))))] (atL h0 j9))) (Int.toNat (wrapI IntKind.i64 (j9 - 1))) (splice 0 [L.int IntKind.i64 (cI 0 (atL h0 j9)), L.int IntKind.i64 (cI 1 (atL h0 j9)), L.lst 9 (cX 2 (atL h0 j9))] (atL (List.set h0 (Int.toNat j9) (splice 0 [L.int IntKind.i64 (cI 0 (atL h0 (wrapI IntKind.i64 (j9 - 1)))), L.int IntKind.i64 (cI 1 (atL h0 (wrapI IntKind.i64 (j9 - 1)))), L.lst 9 (cX 2 (atL h0 (wrapI IntKind.i64 (j9 - 1))))] (atL h0 j9))) (wrapI IntKind.i64 (j9 - 1)))))))
           none)
          none)
         none)
        none)
       (G (isort_q1 a1 b2 (wrapI IntKind.i64 (i8 + 1)) h0)))
      none)
     none)
    none)
   (G (isort_q1 a1 b2 (wrapI IntKind.i64 (i8 + 1)) h0))) := by kernel_rfl

/-! slices.stableCmpFunc[codesearch/api.Hunk] -/
noncomputable def stable_q2 (n1 : Int) (blockSize6 : Int) (a7 : Int) (b8 : Int) (h0 : List (List L)) : Req := .point 56 [(.arr 46)] (todoAt Tryd.prog 56 2) ⟨[(.lf (.ars 0)), (.lf (.int IntKind.i64 n1)), (.lf (.clo 45 [])), an, an, an, (.lf (.int IntKind.i64 blockSize6)), (.lf (.int IntKind.i64 a7)), (.lf (.int IntKind.i64 b8)), an, an, an, an, an, an, an, an, an, an, an, an, an, an, an, an, an, an, an, an, an, an, an, an, an, an, an, an, an, an, an, an, an, an, an, an, an, an, an, an, an, an, an, an, an, an, an, an, an, an, an, an, an, an], [(.arr 46 h0)]⟩
noncomputable def stable_q7 (n1 : Int) (blockSize6 : Int) (h0 : List (List L)) : Req := .point 56 [(.arr 46)] (todoAt Tryd.prog 56 7) ⟨[(.lf (.ars 0)), (.lf (.int IntKind.i64 n1)), (.lf (.clo 45 [])), an, an, an, (.lf (.int IntKind.i64 blockSize6)), an, an, an, an, an, an, an, an, an, an, an, an, an, an, an, an, an, an, an, an, an, an, an, an, an, an, an, an, an, an, an, an, an, an, an, an, an, an, an, an, an, an, an, an, an, an, an, an, an, an, an, an, an, an, an, an], [(.arr 46 h0)]⟩
noncomputable def stable_q9 (n1 : Int) (blockSize6 : Int) (a7 : Int) (b8 : Int) (h0 : List (List L)) : Req := .point 56 [(.arr 46)] (todoAt Tryd.prog 56 9) ⟨[(.lf (.ars 0)), (.lf (.int IntKind.i64 n1)), (.lf (.clo 45 [])), an, an, an, (.lf (.int IntKind.i64 blockSize6)), (.lf (.int IntKind.i64 a7)), (.lf (.int IntKind.i64 b8)), an, an, an, an, an, an, an, an, an, an, an, an, an, an, an, an, an, an, an, an, an, an, an, an, an, an, an, an, an, an, an, an, an, an, an, an, an, an, an, an, an, an, an, an, an, an, an, an, an, an, an, an, an, an], [(.arr 46 h0)]⟩
theorem stable_e (G : Req → R) (xs : List (List L)) (n : Int) : runB (cfg [k_isort, k_sym]) G (.enter 56 [(.lf (.ars (0))), (.lf (.int IntKind.i64 (n))), (.lf (.clo 45 []))] [(.arr 46 xs)]) =
  (G (stable_q2 n 20 0 20 xs)) := by kernel_rfl
theorem stable_p2 (G : Req → R) (n1 : Int) (blockSize6 : Int) (a7 : Int) (b8 : Int) (h0 : List (List L)) : runB (cfg [k_isort, k_sym]) G (stable_q2 n1 blockSize6 a7 b8 h0) =
  (cond (leI b8 n1)
   (cond (isHs h0 && gSo (dHs h0) a7 b8)
    (G (stable_q2 n1 blockSize6 b8 (wrapI IntKind.i64 (b8 + blockSize6)) (eHs (srtP (dHs h0) (Int.toNat a7) (Int.toNat b8)))))
    none)
   (cond (isHs h0 && gSo (dHs h0) a7 n1)
    (G (stable_q7 n1 blockSize6 (eHs (srtP (dHs h0) (Int.toNat a7) (Int.toNat n1)))))
    none)) := by kernel_rfl
theorem stable_p7 (G : Req → R) (n1 : Int) (blockSize6 : Int) (h0 : List (List L)) : runB (cfg [k_isort, k_sym]) G (stable_q7 n1 blockSize6 h0) =
  (cond (ltI blockSize6 n1)
   (G (stable_q9 n1 blockSize6 0 (wrapI IntKind.i64 (2 * blockSize6)) h0))
   (some [(.lst 46 h0)])) := by kernel_rfl
theorem stable_p9 (G : Req → R) (n1 : Int) (blockSize6 : Int) (a7 : Int) (b8 : Int) (h0 : List (List L)) : runB (cfg [k_isort, k_sym]) G (stable_q9 n1 blockSize6 a7 b8 h0) =
  (cond (leI b8 n1)
   (cond (isHs h0 && gSy (dHs h0) a7 (wrapI IntKind.i64 (a7 + blockSize6)) b8)
    (G (stable_q9 n1 blockSize6 b8 (wrapI IntKind.i64 (b8 + wrapI IntKind.i64 (2 * blockSize6))) (eHs (srtP (dHs h0) (Int.toNat a7) (Int.toNat b8)))))
    none)
   (cond (ltI (wrapI IntKind.i64 (a7 + blockSize6)) n1)
    (cond (isHs h0 && gSy (dHs h0) a7 (wrapI IntKind.i64 (a7 + blockSize6)) n1)
     (G (stable_q7 n1 (wrapI IntKind.i64 (blockSize6 * 2)) (eHs (srtP (dHs h0) (Int.toNat a7) (Int.toNat n1)))))
     none)
    (G (stable_q7 n1 (wrapI IntKind.i64 (blockSize6 * 2)) h0)))) := by kernel_rfl

/-! slices.SortStableFunc[[]codesearch/api.Hunk,codesearch/api.Hunk] -/
theorem sort_e (G : Req → R) (xs : List (List L)) : runB (cfg [k_stable]) G (.enter 44 [(.lf (.ars (0))), (.lf (.clo 45 []))] [(.arr 46 xs)]) =
  (cond (isHs xs && (gSt (dHs xs) && (↑(List.length xs) : Int) == (↑(List.length (dHs xs)) : Int)))
   (some [(.lst 46 (eHs (srtH (dHs xs))))])
   none) := by kernel_rfl

/-! codesearch/diff.Merge -/
noncomputable def merge_q4 (base0 : List (List L)) (l8 : List (List L)) (x24 : List (List L)) (x25 : Int) (x26 : Int) (h0 : List (List L)) : Req := .point 18 [] (todoAt Tryd.prog 18 4) ⟨[(.lf (.lst 9 base0)), an, an, an, an, an, an, an, (.lf (.lst 46 l8)), an, (.lf (.row 0)), an, an, an, an, an, an, an, an, an, an, an, an, an, (.lf (.lst 46 x24)), (.lf (.int IntKind.i64 x25)), (.lf (.int IntKind.i64 x26)), an, an, an, an, an, an, an, an, an, an, an, an, an, an, an, an, an, an, an, an, an, an, an, an, an, an, an, an, an, an, an, an, an, an, an, an, an, an, an, an], [(.row 46 h0 true)]⟩
noncomputable def merge_q8 (base0 : List (List L)) (l8 : List (List L)) (twice13 : Bool) (x24 : List (List L)) (x25 : Int) (x26 : Int) (x30 : List (List L)) (x31 : Int) (x32 : Int) (h0 : List (List L)) (h1_0 : Int) (h1_1 : Int) (h1_2 : List (List L)) : Req := .point 18 [] (todoAt Tryd.prog 18 8) ⟨[(.lf (.lst 9 base0)), an, an, an, an, an, an, an, (.lf (.lst 46 l8)), an, (.lf (.row 0)), an, (.lf (.ptr 1 0)), (.lf (.bool twice13)), an, an, an, an, an, an, an, an, an, an, (.lf (.lst 46 x24)), (.lf (.int IntKind.i64 x25)), (.lf (.int IntKind.i64 x26)), an, an, an, (.lf (.lst 46 x30)), (.lf (.int IntKind.i64 x31)), (.lf (.int IntKind.i64 x32)), an, an, an, an, an, an, an, an, an, an, an, an, an, an, an, an, an, an, an, an, an, an, an, an, an, an, an, an, an, an, an, an, an, an], [(.row 46 h0 true), (.box [(.int IntKind.i64), (.int IntKind.i64), (.sl 9)] [(.int IntKind.i64 h1_0), (.int IntKind.i64 h1_1), (.lst 9 h1_2)])]⟩
theorem merge_e (G : Req → R) (base0 : List (List L)) (a1 : List (List L)) (b2 : List (List L)) : runB (cfg [k_Lines, k_clH, k_same, k_sort, k_apply]) G (.enter 18 [(.lf (.lst 9 base0)), (.lf (.lst 9 a1)), (.lf (.lst 9 b2))] []) =
  (cond (isSs base0 && (isSs a1 && gL5 (dSs base0) (dSs a1)))
   (cond (isSs base0 && (isSs b2 && gL5 (dSs base0) (dSs b2)))
    (cond (isHs (eHs (lnF (dSs base0) (dSs a1))) && sm (List.length (dHs (eHs (lnF (dSs base0) (dSs a1))))))
     (G (merge_q4 base0 (eHs (lnF (dSs base0) (dSs a1))) (eHs (lnF (dSs base0) (dSs b2))) ((↑(List.length (eHs (lnF (dSs base0) (dSs b2)))) : Int)) 0 (eHs (dHs (eHs (lnF (dSs base0) (dSs a1)))))))
     none)
    none)
   none) := by kernel_rfl
theorem merge_p4 (G : Req → R) (base0 : List (List L)) (l8 : List (List L)) (x24 : List (List L)) (x25 : Int) (x26 : Int) (h0 : List (List L)) : runB (cfg [k_Lines, k_clH, k_same, k_sort, k_apply]) G (merge_q4 base0 l8 x24 x25 x26 h0) =
  (cond (ltI x26 x25)
   (cond (leI 0 x26 && ltI x26 (↑(List.length x24) : Int))
    (G (merge_q8 base0 l8 false x24 x25 x26 l8 ((↑(List.length l8) : Int)) 0 h0 (cI 0 (atL x24 x26)) (cI 1 (atL x24 x26)) (cX 2 (atL x24 x26))))
    none)
   (cond (isHs h0 && gSt (dHs h0))
    (cond (isSs base0 && (isHs (eHs (srtH (dHs h0))) && gAp (dSs base0) (dHs (eHs (srtH (dHs h0))))))
     (some [(.lst 9 (eSs (applyF (dSs base0) (dHs (eHs (srtH (dHs h0))))))), (.int IntKind.i64 (rightF (dHs (eHs (srtH (dHs h0)))) (↑(List.length (dSs base0)) : Int)))])
     none)
    none)) := by kernel_rfl
theorem merge_p8 (G : Req → R) (base0 : List (List L)) (l8 : List (List L)) (twice13 : Bool) (x24 : List (List L)) (x25 : Int) (x26 : Int) (x30 : List (List L)) (x31 : Int) (x32 : Int) (h0 : List (List L)) (h1_0 : Int) (h1_1 : Int) (h1_2 : List (List L)) : runB (cfg [k_Lines, k_clH, k_same, k_sort, k_apply]) G (merge_q8 base0 l8 twice13 x24 x25 x26 x30 x31 x32 h0 h1_0 h1_1 h1_2) =
  (cond (ltI x32 x31)
   (cond (leI 0 x32 && ltI x32 (↑(List.length x30) : Int))
    (cond (isSs (cX 2 (atL x30 x32)) && (isSs h1_2 && gLL (dSs (cX 2 (atL x30 x32))) (dSs h1_2)))
     (cond (cI 0 (atL x30 x32) == h1_0 && (cI 1 (atL x30 x32) == h1_1 && decide (dSs (cX 2 (atL x30 x32)) = dSs h1_2)))
      (G (merge_q8 base0 l8 true x24 x25 x26 x30 x31 (wrapI IntKind.i64 (x32 + 1)) h0 h1_0 h1_1 h1_2))
      (cond (leI h1_0 (cI 1 (atL x30 x32)))
       (cond (leI (cI 0 (atL x30 x32)) h1_1)
        (some [(.lst 9 []), (.int IntKind.i64 (14))])
        (G (merge_q8 base0 l8 twice13 x24 x25 x26 x30 x31 (wrapI IntKind.i64 (x32 + 1)) h0 h1_0 h1_1 h1_2)))
       (G (merge_q8 base0 l8 twice13 x24 x25 x26 x30 x31 (wrapI IntKind.i64 (x32 + 1)) h0 h1_0 h1_1 h1_2))))
     none)
    none)
   (cond (!twice13)
    (cond (roomN (List.length h0 + 1) 40)
     (G (merge_q4 base0 l8 x24 x25 (wrapI IntKind.i64 (x26 + 1)) (h0 ++ [[L.int IntKind.i64 h1_0, L.int IntKind.i64 h1_1, L.lst 9 h1_2]])))
     none)
    (G (merge_q4 base0 l8 x24 x25 (wrapI IntKind.i64 (x26 + 1)) h0)))) := by kernel_rfl

/-! codesearch/codesearchref23.Merge -/
noncomputable def rMerge_q4 (base0 : List (List L)) (i11 : Int) (j12 : Int) (h0 : List (List L)) (h1 : List (List L)) (h2 : List (List L)) : Req := .point 19 [] (todoAt Tryd.prog 19 4) ⟨[(.lf (.lst 9 base0)), an, an, an, an, an, an, an, (.lf (.row 0)), (.lf (.row 1)), (.lf (.row 2)), (.lf (.int IntKind.i64 i11)), (.lf (.int IntKind.i64 j12)), an, an, an, an, an, an, an, an, an, an, an, an, an, an, an, an, an, an, an, an, an, an, an, an, an, an, an, an, an, an, an, an, an, an, an, an, an, an, an, an, an, an, an, an, an, an, an, an, an, an, an, an, an, an, an, an, an, an, an, an, an, an, an, an, an, an, an, an, an, an, an, an, an, an, an, an, an, an, an, an, an, an, an, an, an, an, an, an, an, an, an, an, an, an, an, an, an, an, an, an], [(.row 46 h0 true), (.row 46 h1 true), (.row 46 h2 true)]⟩
theorem rMerge_e (G : Req → R) (base0 : List (List L)) (a1 : List (List L)) (b2 : List (List L)) : runB (cfg [k_rLines, k_shunk, k_rapply]) G (.enter 19 [(.lf (.lst 9 base0)), (.lf (.lst 9 a1)), (.lf (.lst 9 b2))] []) =
  (cond (isSs base0 && (isSs a1 && gL5 (dSs base0) (dSs a1)))
   (cond (isSs base0 && (isSs b2 && gL5 (dSs base0) (dSs b2)))
    (G (rMerge_q4 base0 0 0 (eHs (lnF (dSs base0) (dSs a1))) (eHs (lnF (dSs base0) (dSs b2))) []))
    none)
   none) := by kernel_rfl
theorem rMerge_p4 (G : Req → R) (base0 : List (List L)) (i11 : Int) (j12 : Int) (h0 : List (List L)) (h1 : List (List L)) (h2 : List (List L)) : runB (cfg [k_rLines, k_shunk, k_rapply]) G (rMerge_q4 base0 i11 j12 h0 h1 h2) =
  (cond (ltI i11 (↑(List.length h0) : Int))
   (cond (j12 == (↑(List.length h1) : Int))
    (cond (leI 0 i11 && ltI i11 (↑(List.length h0) : Int))
     (cond (roomN (List.length h2 + 1) 40)
      (G (rMerge_q4 base0 (wrapI IntKind.i64 (i11 + 1)) j12 h0 h1 (h2 ++ [[L.int IntKind.i64 (cI 0 (atL h0 i11)), L.int IntKind.i64 (cI 1 (atL h0 i11)), L.lst 9 (cX 2 (atL h0 i11))]])))
      none)
     none)
    (cond (ltI i11 (↑(List.length h0) : Int))
     (cond (leI 0 i11 && ltI i11 (↑(List.length h0) : Int))
      (cond (leI 0 j12 && ltI j12 (↑(List.length h1) : Int))
       (cond (ltI (cI 1 (atL h0 i11)) (cI 0 (atL h1 j12)))
        (cond (leI 0 i11 && ltI i11 (↑(List.length h0) : Int))
         (cond (roomN (List.length h2 + 1) 40)
          (G (rMerge_q4 base0 (wrapI IntKind.i64 (i11 + 1)) j12 h0 h1 (h2 ++ [[L.int IntKind.i64 (cI 0 (atL h0 i11)), L.int IntKind.i64 (cI 1 (atL h0 i11)), L.lst 9 (cX 2 (atL h0 i11))]])))
          none)
         none)
        (cond (i11 == (↑(List.length h0) : Int))
         (cond (leI 0 j12 && ltI j12 (↑(List.length h1) : Int))
          (cond (roomN (List.length h2 + 1) 40)
           (G (rMerge_q4 base0 i11 (wrapI IntKind.i64 (j12 + 1)) h0 h1 (h2 ++ [[L.int IntKind.i64 (cI 0 (atL h1 j12)), L.int IntKind.i64 (cI 1 (atL h1 j12)), L.lst 9 (cX 2 (atL h1 j12))]])))
           none)
          none)
         (cond (leI 0 j12 && ltI j12 (↑(List.length h1) : Int))
          (cond (leI 0 i11 && ltI i11 (↑(List.length h0) : Int))
           (cond (ltI (cI 1 (atL h1 j12)) (cI 0 (atL h0 i11)))
            (cond (leI 0 j12 && ltI j12 (↑(List.length h1) : Int))
             (cond (roomN (List.length h2 + 1) 40)
              (G (rMerge_q4 base0 i11 (wrapI IntKind.i64 (j12 + 1)) h0 h1 (h2 ++ [[L.int IntKind.i64 (cI 0 (atL h1 j12)), L.int IntKind.i64 (cI 1 (atL h1 j12)), L.lst 9 (cX 2 (atL h1 j12))]])))
              none)
             none)
            (cond (leI 0 i11 && ltI i11 (↑(List.length h0) : Int))
             (cond (leI 0 j12 && ltI j12 (↑(List.length h1) : Int))
              (cond (isSs (cX 2 (atL h0 i11)) && (isSs (cX 2 (atL h1 j12)) && gLL (dSs (cX 2 (atL h0 i11))) (dSs (cX 2 (atL h1 j12)))))
               (cond (cI 0 (atL h0 i11) == cI 0 (atL h1 j12) && (cI 1 (atL h0 i11) == cI 1 (atL h1 j12) && decide (dSs (cX 2 (atL h0 i11)) = dSs (cX 2 (atL h1 j12)))))
                (cond (leI 0 i11 && ltI i11 (↑(List.length h0) : Int))
                 (cond (roomN (List.length h2 + 1) 40)
                  (G (rMerge_q4 base0 (wrapI IntKind.i64 (i11 + 1)) (wrapI IntKind.i64 (j12 + 1)) h0 h1 (h2 ++ [[L.int IntKind.i64 (cI 0 (atL h0 i11)), L.int IntKind.i64 (cI 1 (atL h0 i11)), L.lst 9 (cX 2 (atL h0 i11))]])))
                  none)
                 none)
                (some [(.lst 9 []), (.int IntKind.i64 (14))]))
               none)
              none)
             none))
           none)
          none)))
       none)
      none)
     (cond (i11 == (↑(List.length h0) : Int))
      (cond (leI 0 j12 && ltI j12 (↑(List.length h1) : Int))
       (cond (roomN (List.length h2 + 1) 40)
        (G (rMerge_q4 base0 i11 (wrapI IntKind.i64 (j12 + 1)) h0 h1 (h2 ++ [[L.int IntKind.i64 (cI 0 (atL h1 j12)), L.int IntKind.i64 (cI 1 (atL h1 j12)), L.lst 9 (cX 2 (atL h1 j12))]])))
        none)
       none)
      (cond (leI 0 j12 && ltI j12 (↑(List.length h1) : Int))
       (cond (leI 0 i11 && ltI i11 (↑(List.length h0) : Int))
        (cond (ltI (cI 1 (atL h1 j12)) (cI 0 (atL h0 i11)))
         (cond (leI 0 j12 && ltI j12 (↑(List.length h1) : Int))
          (cond (roomN (List.length h2 + 1) 40)
           (G (rMerge_q4 base0 i11 (wrapI IntKind.i64 (j12 + 1)) h0 h1 (h2 ++ [[L.int IntKind.i64 (cI 0 (atL h1 j12)), L.int IntKind.i64 (cI 1 (atL h1 j12)), L.lst 9 (cX 2 (atL h1 j12))]])))
           none)
          none)
         (cond (leI 0 i11 && ltI i11 (↑(List.length h0) : Int))
          (cond (leI 0 j12 && ltI j12 (↑(List.length h1) : Int))
           (cond (isSs (cX 2 (atL h0 i11)) && (isSs (cX 2 (atL h1 j12)) && gLL (dSs (cX 2 (atL h0 i11))) (dSs (cX 2 (atL h1 j12)))))
            (cond (cI 0 (atL h0 i11) == cI 0 (atL h1 j12) && (cI 1 (atL h0 i11) == cI 1 (atL h1 j12) && decide (dSs (cX 2 (atL h0 i11)) = dSs (cX 2 (atL h1 j12)))))
             (cond (leI 0 i11 && ltI i11 (↑(List.length h0) : Int))
              (cond (roomN (List.length h2 + 1) 40)
               (G (rMerge_q4 base0 (wrapI IntKind.i64 (i11 + 1)) (wrapI IntKind.i64 (j12 + 1)) h0 h1 (h2 ++ [[L.int IntKind.i64 (cI 0 (atL h0 i11)), L.int IntKind.i64 (cI 1 (atL h0 i11)), L.lst 9 (cX 2 (atL h0 i11))]])))
               none)
              none)
             (some [(.lst 9 []), (.int IntKind.i64 (14))]))
            none)
           none)
          none))
        none)
       none))))
   (cond (ltI j12 (↑(List.length h1) : Int))
    (cond (j12 == (↑(List.length h1) : Int))
     (cond (leI 0 i11 && ltI i11 (↑(List.length h0) : Int))
      (cond (roomN (List.length h2 + 1) 40)
       (G (rMerge_q4 base0 (wrapI IntKind.i64 (i11 + 1)) j12 h0 h1 (h2 ++ [[L.int IntKind.i64 (cI 0 (atL h0 i11)), L.int IntKind.i64 (cI 1 (atL h0 i11)), L.lst 9 (cX 2 (atL h0 i11))]])))
       none)
      none)
     (cond (ltI i11 (↑(List.length h0) : Int))
      (cond (leI 0 i11 && ltI i11 (↑(List.length h0) : Int))
       (cond (leI 0 j12 && ltI j12 (↑(List.length h1) : Int))
        (cond (ltI (cI 1 (atL h0 i11)) (cI 0 (atL h1 j12)))
         (cond (leI 0 i11 && ltI i11 (↑(List.length h0) : Int))
          (cond (roomN (List.length h2 + 1) 40)
           (G (rMerge_q4 base0 (wrapI IntKind.i64 (i11 + 1)) j12 h0 h1 (h2 ++ [[L.int IntKind.i64 (cI 0 (atL h0 i11)), L.int IntKind.i64 (cI 1 (atL h0 i11)), L.lst 9 (cX 2 (atL h0 i11))]])))
           none)
          none)
         (cond (i11 == (↑(List.length h0) : Int))
          (cond (leI 0 j12 && ltI j12 (↑(List.length h1) : Int))
           (cond (roomN (List.length h2 + 1) 40)
            (G (rMerge_q4 base0 i11 (wrapI IntKind.i64 (j12 + 1)) h0 h1 (h2 ++ [[L.int IntKind.i64 (cI 0 (atL h1 j12)), L.int IntKind.i64 (cI 1 (atL h1 j12)), L.lst 9 (cX 2 (atL h1 j12))]])))
            none)
           none)
          (cond (leI 0 j12 && ltI j12 (↑(List.length h1) : Int))
           (cond (leI 0 i11 && ltI i11 (↑(List.length h0) : Int))
            (cond (ltI (cI 1 (atL h1 j12)) (cI 0 (atL h0 i11)))
             (cond (leI 0 j12 && ltI j12 (↑(List.length h1) : Int))
              (cond (roomN (List.length h2 + 1) 40)
               (G (rMerge_q4 base0 i11 (wrapI IntKind.i64 (j12 + 1)) h0 h1 (h2 ++ [[L.int IntKind.i64 (cI 0 (atL h1 j12)), L.int IntKind.i64 (cI 1 (atL h1 j12)), L.lst 9 (cX 2 (atL h1 j12))]])))
               none)
              none)
             (cond (leI 0 i11 && ltI i11 (↑(List.length h0) : Int))
              (cond (leI 0 j12 && ltI j12 (↑(List.length h1) : Int))
               (cond (isSs (cX 2 (atL h0 i11)) && (isSs (cX 2 (atL h1 j12)) && gLL (dSs (cX 2 (atL h0 i11))) (dSs (cX 2 (atL h1 j12)))))
                (cond (cI 0 (atL h0 i11) == cI 0 (atL h1 j12) && (cI 1 (atL h0 i11) == cI 1 (atL h1 j12) && decide (dSs (cX 2 (atL h0 i11)) = dSs (cX 2 (atL h1 j12)))))
                 (cond (leI 0 i11 && ltI i11 (↑(List.length h0) : Int))
                  (cond (roomN (List.length h2 + 1) 40)
                   (G (rMerge_q4 base0 (wrapI IntKind.i64 (i11 + 1)) (wrapI IntKind.i64 (j12 + 1)) h0 h1 (h2 ++ [[L.int IntKind.i64 (cI 0 (atL h0 i11)), L.int IntKind.i64 (cI 1 (atL h0 i11)), L.lst 9 (cX 2 (atL h0 i11))]])))
                   none)
                  none)
                 (some [(.lst 9 []), (.int IntKind.i64 (14))]))
                none)
               none)
              none))
            none)
           none)))
        none)
       none)
      (cond (i11 == (↑(List.length h0) : Int))
       (cond (leI 0 j12 && ltI j12 (↑(List.length h1) : Int))
        (cond (roomN (List.length h2 + 1) 40)
         (G (rMerge_q4 base0 i11 (wrapI IntKind.i64 (j12 + 1)) h0 h1 (h2 ++ [[L.int IntKind.i64 (cI 0 (atL h1 j12)), L.int IntKind.i64 (cI 1 (atL h1 j12)), L.lst 9 (cX 2 (atL h1 j12))]])))
         none)
        none)
       (cond (leI 0 j12 && ltI j12 (↑(List.length h1) : Int))
        (cond (leI 0 i11 && ltI i11 (↑(List.length h0) : Int))
         (cond (ltI (cI 1 (atL h1 j12)) (cI 0 (atL h0 i11)))
          (cond (leI 0 j12 && ltI j12 (↑(List.length h1) : Int))
           (cond (roomN (List.length h2 + 1) 40)
            (G (rMerge_q4 base0 i11 (wrapI IntKind.i64 (j12 + 1)) h0 h1 (h2 ++ [[L.int IntKind.i64 (cI 0 (atL h1 j12)), L.int IntKind.i64 (cI 1 (atL h1 j12)), L.lst 9 (cX 2 (atL h1 j12))]])))
            none)
           none)
          (cond (leI 0 i11 && ltI i11 (↑(List.length h0) : Int))
           (cond (leI 0 j12 && ltI j12 (↑(List.length h1) : Int))
            (cond (isSs (cX 2 (atL h0 i11)) && (isSs (cX 2 (atL h1 j12)) && gLL (dSs (cX 2 (atL h0 i11))) (dSs (cX 2 (atL h1 j12)))))
             (cond (cI 0 (atL h0 i11) == cI 0 (atL h1 j12) && (cI 1 (atL h0 i11) == cI 1 (atL h1 j12) && decide (dSs (cX 2 (atL h0 i11)) = dSs (cX 2 (atL h1 j12)))))
              (cond (leI 0 i11 && ltI i11 (↑(List.length h0) : Int))
               (cond (roomN (List.length h2 + 1) 40)
                (G (rMerge_q4 base0 (wrapI IntKind.i64 (i11 + 1)) (wrapI IntKind.i64 (j12 + 1)) h0 h1 (h2 ++ [[L.int IntKind.i64 (cI 0 (atL h0 i11)), L.int IntKind.i64 (cI 1 (atL h0 i11)), L.lst 9 (cX 2 (atL h0 i11))]])))
                none)
               none)
              (some [(.lst 9 []), (.int IntKind.i64 (14))]))
             none)
            none)
           none))
         none)
        none))))
    (cond (isSs base0 && (isHs h2 && gAp (dSs base0) (dHs h2)))
     (some [(.lst 9 (eSs (applyF (dSs base0) (dHs h2)))), (.int IntKind.i64 (rightF (dHs h2) (↑(List.length (dSs base0)) : Int)))])
     none))) := by kernel_rfl

end Go.Ab
namespace Go.Proofs
open Go.RowKit

theorem T66_info : ∃ j, Tryd.prog.info? 66 = some j ∧ j.size = 2 := by
  have h : (Tryd.prog.info? 66).map (·.size) = some 2 := by kernel_rfl
  obtain ⟨j, h1, h2⟩ := Option.map_eq_some_iff.1 h
  exact ⟨j, h1, h2⟩
theorem T66_lies : Go.liesAt Tryd.prog Tryd.prog.depth 66 (2 / Tryd.prog.cellsOf 66) 0 66 1 = true := by kernel_rfl

set_option maxHeartbeats 1000000 in
set_option maxRecDepth 100000 in
theorem cc_used (b : Nat) (w : World) (h0 : w.cell? ⟨b, 0, none⟩ = some (.pointer (some ⟨b, 0, none⟩))) :
    Calls Tryd.prog 57 #[.pointer (some ⟨b, 0, none⟩)] w fun e w' => e = .returned (.tuple #[]) ∧ w' = w := by
  obtain ⟨j, hj, _⟩ := T66_info
  go_enter Tryd.func57, Tryd.ntmps57
  go_wp2
  rw [Lib.run_neq_ptr_same w _ Tryd.underlying63 hj]
  go_wp2
  go_end0
  exact ⟨rfl, rfl⟩

set_option maxHeartbeats 1000000 in
set_option maxRecDepth 100000 in
theorem cc_fresh (b : Nat) (w : World) (h0 : w.cell? ⟨b, 0, none⟩ = some (.pointer none)) (hsh : w.shape? b = some (66, 2)) (hfz : w.frozen? ⟨b, 0, none⟩ = false) :
    Calls Tryd.prog 57 #[.pointer (some ⟨b, 0, none⟩)] w fun e w' => e = .returned (.tuple #[]) ∧ w' = w.setCell ⟨b, 0, none⟩ (.pointer (some ⟨b, 0, none⟩)) := by
  obtain ⟨j, hj, hjs⟩ := T66_info
  go_enter Tryd.func57, Tryd.ntmps57
  go_wp2
  rw [Lib.run_to_unsafe w ⟨b, 0, none⟩ Tryd.underlying63 Tryd.underlying90 hj (by rw [hjs]; decide) hsh (Nat.zero_lt_succ 1)]
  simp only [Result.andThen]
  rw [Oper.upon_value]
  go_wp2
  rw [run_callFunc_extern Tryd.func66 (by kernel_rfl) (by kernel_rfl) (by kernel_rfl) (e := Extern.AbiNoEscape.same) (by kernel_rfl)]
  rw [Lib.run_noEscape]
  simp only [Result.andThen]
  rw [Oper.upon_value]
  go_wp2
  rw [Lib.run_from_unsafe w ⟨b, 0, none⟩ Tryd.underlying90 Tryd.underlying63 hj hsh T66_lies]
  simp only [Result.andThen]
  rw [Oper.upon_value]
  go_wp2
  go_end0
  exact ⟨rfl, rfl⟩

theorem T126 : Tryd.prog.cellsOf 5 = 1 := by kernel_rfl
set_option maxHeartbeats 2000000 in
set_option maxRecDepth 1000000 in
theorem bs_some (b g cap : Nat) (p : Value) (cur : Array Value) (l : List UInt8) (w : World) (h0 : l ≠ []) (hbk : w.heap[b]? = some (.cells #[p, .slice (some ⟨g, 0, none⟩) l.length cap] 66 (0, 0)))
    (hg : w.heap[g]? = some (.cells cur 5 (0, 0))) (hcap : cap ≠ 0) (hl : l.length ≤ cur.size) (hm : l.length ≤ 9223372036854775807) (hcell : ∀ (j : Nat) x, l[j]? = some x → w.cell? ((⟨g, 0, none⟩ : Addr).add j) = some (.int .u8 x.toNat)) :
    Calls Tryd.prog 48 #[.pointer (some ⟨b, 0, none⟩)] w fun e w' => e = .returned (.string ⟨l.toArray⟩) ∧ w' = w.drew.freeze ⟨g, 0, none⟩ l.length := by
  have c1 : w.drew.cell? ⟨b, 1, none⟩ = some (.slice (some ⟨g, 0, none⟩) l.length cap) := by
    have : w.drew.heap[b]? = some (.cells #[p, .slice (some ⟨g, 0, none⟩) l.length cap] 66 (0, 0)) := hbk
    rw [Lib.cell_of_heap this]; rfl
  have hSD : (Builtin.unsafeSliceData_ #[64] 81 #[.slice (some ⟨g, 0, none⟩) l.length cap]).run Tryd.prog w.drew = .ok (.pointer (some ⟨g, 0, none⟩)) w.drew :=
    Lib.run_unsafeSliceData_row _ _ _ _ _ _ hcap
  have hUS : (Builtin.unsafeString_ #[81, 3] 9 #[.pointer (some ⟨g, 0, none⟩), .int .i64 l.length]).run Tryd.prog w.drew = .ok (.string ⟨l.toArray⟩) (w.drew.freeze ⟨g, 0, none⟩ l.length) := by
    refine Lib.run_unsafeString_row w.drew 81 3 9 5 Tryd.underlying81 T126 g cur.size (by have hg' : w.drew.heap[g]? = some (.cells cur 5 (0, 0)) := hg; simp [World.shape?, hg']) l h0 hl hm ?_
    intro j x hx
    exact hcell j x hx
  have mixed : Tryd.prog.follows .mixedOrders = true := by kernel_rfl
  go_enter Tryd.func48, Tryd.ntmps48
  go_wp2
  go_region_o
  all_goals (go_wp2; go_ret; exact ⟨rfl, rfl⟩)
set_option maxHeartbeats 2000000 in
set_option maxRecDepth 100000 in
theorem bs_nil (b : Nat) (p : Value) (w : World) (hbk : w.heap[b]? = some (.cells #[p, .slice none 0 0] 66 (0, 0))) :
    Calls Tryd.prog 48 #[.pointer (some ⟨b, 0, none⟩)] w fun e w' => e = .returned (.string ⟨#[]⟩) ∧ w' = w.drew := by
  have hUS : ∀ (W : World) (q : Option Addr), (Builtin.unsafeString_ #[81, 3] 9 #[.pointer q, .int .i64 0]).run Tryd.prog W = .ok (.string .empty) W := fun W q => Lib.run_unsafeString_none W _ _ _ q
  have c1 : w.drew.cell? ⟨b, 1, none⟩ = some (.slice none 0 0) := by
    have : w.drew.heap[b]? = some (.cells #[p, .slice none 0 0] 66 (0, 0)) := hbk
    rw [Lib.cell_of_heap this]; rfl
  have hSD : (Builtin.unsafeSliceData_ #[64] 81 #[.slice none 0 0]).run Tryd.prog w.drew = .ok (.pointer none) w.drew := rfl
  have mixed : Tryd.prog.follows .mixedOrders = true := by kernel_rfl
  go_enter Tryd.func48, Tryd.ntmps48
  go_wp2
  go_region_o
  all_goals (go_wp2; go_ret; exact ⟨rfl, rfl⟩)
set_option maxHeartbeats 2000000 in
set_option maxRecDepth 100000 in
theorem bs_noroom (b g : Nat) (p : Value) (cur : Array Value) (w : World) (hbk : w.heap[b]? = some (.cells #[p, .slice (some ⟨g, 0, none⟩) 0 0] 66 (0, 0))) (hg : w.heap[g]? = some (.cells cur 5 (0, 0))) :
    Calls Tryd.prog 48 #[.pointer (some ⟨b, 0, none⟩)] w fun e w' => e = .returned (.string ⟨#[]⟩) ∧ w' = w.drew.alloc (.view ⟨g, 0, none⟩ 5) := by
  have hUS : ∀ (W : World) (q : Option Addr), (Builtin.unsafeString_ #[81, 3] 9 #[.pointer q, .int .i64 0]).run Tryd.prog W = .ok (.string .empty) W := fun W q => Lib.run_unsafeString_none W _ _ _ q
  have hlt : b < w.heap.size := by
    rcases Nat.lt_or_ge b w.heap.size with h' | h'
    · exact h'
    · simp [Array.getElem?_eq_none h'] at hbk
  have c1 : w.drew.cell? ⟨b, 1, none⟩ = some (.slice (some ⟨g, 0, none⟩) 0 0) := by
    have : w.drew.heap[b]? = some (.cells #[p, .slice (some ⟨g, 0, none⟩) 0 0] 66 (0, 0)) := hbk
    rw [Lib.cell_of_heap this]; rfl
  have hSD : (Builtin.unsafeSliceData_ #[64] 81 #[.slice (some ⟨g, 0, none⟩) 0 0]).run Tryd.prog w.drew = .ok (.pointer (some ⟨w.drew.heap.size, 0, none⟩)) (w.drew.alloc (.view ⟨g, 0, none⟩ 5)) :=
    Lib.run_unsafeSliceData_zero w.drew _ _ 5 Tryd.underlying81 ⟨g, 0, none⟩ 0 (5, cur.size) (by have hg' : w.drew.heap[g]? = some (.cells cur 5 (0, 0)) := hg; simp [World.shape?, hg'])
  have c2 : (w.drew.alloc (.view ⟨g, 0, none⟩ 5)).cell? ⟨b, 1, none⟩ = some (.slice (some ⟨g, 0, none⟩) 0 0) := by
    have : (w.drew.alloc (.view ⟨g, 0, none⟩ 5)).heap[b]? = _ := (Lib.alloc_old w.drew _ b hlt).trans hbk
    rw [Lib.cell_of_heap this]; rfl
  have c3 : (w.alloc (.view ⟨g, 0, none⟩ 5)).drew.cell? ⟨b, 1, none⟩ = some (.slice (some ⟨g, 0, none⟩) 0 0) := c2
  have c0 : w.cell? ⟨b, 1, none⟩ = some (.slice (some ⟨g, 0, none⟩) 0 0) := c1
  have mixed : Tryd.prog.follows .mixedOrders = true := by kernel_rfl
  go_enter Tryd.func48, Tryd.ntmps48
  go_wp2
  go_region_o
  all_goals (go_wp2; go_ret; exact ⟨rfl, rfl⟩)
set_option maxHeartbeats 2000000 in
set_option maxRecDepth 100000 in
theorem bs_room (b g cap : Nat) (p : Value) (w : World) (hc0 : cap ≠ 0) (hbk : w.heap[b]? = some (.cells #[p, .slice (some ⟨g, 0, none⟩) 0 cap] 66 (0, 0))) :
    Calls Tryd.prog 48 #[.pointer (some ⟨b, 0, none⟩)] w fun e w' => e = .returned (.string ⟨#[]⟩) ∧ w' = w.drew := by
  have hUS : ∀ (W : World) (q : Option Addr), (Builtin.unsafeString_ #[81, 3] 9 #[.pointer q, .int .i64 0]).run Tryd.prog W = .ok (.string .empty) W := fun W q => Lib.run_unsafeString_none W _ _ _ q
  have c1 : w.drew.cell? ⟨b, 1, none⟩ = some (.slice (some ⟨g, 0, none⟩) 0 cap) := by
    have : w.drew.heap[b]? = some (.cells #[p, .slice (some ⟨g, 0, none⟩) 0 cap] 66 (0, 0)) := hbk
    rw [Lib.cell_of_heap this]; rfl
  have hSD : (Builtin.unsafeSliceData_ #[64] 81 #[.slice (some ⟨g, 0, none⟩) 0 cap]).run Tryd.prog w.drew = .ok (.pointer (some ⟨g, 0, none⟩)) w.drew :=
    Lib.run_unsafeSliceData_row _ _ _ _ _ _ hc0
  clear hc0
  have mixed : Tryd.prog.follows .mixedOrders = true := by kernel_rfl
  go_enter Tryd.func48, Tryd.ntmps48
  go_wp2
  go_region_o
  all_goals (go_wp2; go_ret; exact ⟨rfl, rfl⟩)
end Go.Proofs
